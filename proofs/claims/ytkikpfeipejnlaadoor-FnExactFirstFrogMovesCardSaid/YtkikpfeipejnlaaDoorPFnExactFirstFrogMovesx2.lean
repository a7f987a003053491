-- Printed by this session's eprint.py over the kit's print (with this session's own texts for some functions)
import Derived.Test.YtkikpfeipejnlaaDoorPFnExactFirstFrogMovesx0
import Derived.Test.YtkikpfeipejnlaaDoorPFnExactFirstFrogMovesx1
namespace Go.Proofs.YtkikpfeipejnlaaDoor.PFnExactFirstFrogMoves
open Go.RowKit Go.Proofs.YtkikpfeipejnlaaDoorW.PrintWords Go.Proofs.YtkikpfeipejnlaaDoorW.PrintLast Go.Proofs.YtkikpfeipejnlaaDoorW.PrintMore
attribute [local go_sem] max2_int min2_int max_two min_two max_three min_three max_four min_four   -- for this text's walks alone
set_option linter.unusedVariables false
set_option linter.unusedSimpArgs false

/-! ### spec_fgTo: function 58 -/
--USES helper_frog
set_option maxHeartbeats 8000000 in
set_option maxRecDepth 100000 in
theorem spec_fgTo.wout (s : ByteArray) (i j1 j2 m : Int) (w : World) (hm : wrap64 ((s.size : Int) - 1) = m) (A0 : spec_l1In.f i 0 m = some false) :
    Calls Tryd.prog 58 #[.string s, .int .i64 i] w fun e w' => e = .returned (.int .i64 (-1)) ∧ Drawn0 w w' := by
  have hmw : IntKind.i64.wrap ((s.size : Int) - 1) = m := (i64_w _).trans hm
  have B0 := Aside0.mk A0
  clear A0
  go_enter Tryd.func58, Tryd.ntmps58
  go_wp2_with (first | (go_at_call 56; (with_reducible refine (spec_l1In.calls i 0 m false _ B0.out).mono ?_); rintro e w' ⟨rfl, ⟨nd, rfl⟩⟩; (try first | exact ⟨rfl, _, World.drewN_drewN _ _ _⟩ | exact ⟨rfl, _, Eq.trans (World.drewN_drewN _ _ _) (congrArg (World.drewN _) (Nat.add_assoc _ _ _))⟩)))
  repeat (go_quiet (first | (go_at_call 56; (with_reducible refine (spec_l1In.calls i 0 m false _ B0.out).mono ?_); rintro e w' ⟨rfl, ⟨nd, rfl⟩⟩; (try first | exact ⟨rfl, _, World.drewN_drewN _ _ _⟩ | exact ⟨rfl, _, Eq.trans (World.drewN_drewN _ _ _) (congrArg (World.drewN _) (Nat.add_assoc _ _ _))⟩))); try go_wp2_with (first | (go_at_call 56; (with_reducible refine (spec_l1In.calls i 0 m false _ B0.out).mono ?_); rintro e w' ⟨rfl, ⟨nd, rfl⟩⟩; (try first | exact ⟨rfl, _, World.drewN_drewN _ _ _⟩ | exact ⟨rfl, _, Eq.trans (World.drewN_drewN _ _ _) (congrArg (World.drewN _) (Nat.add_assoc _ _ _))⟩))))
  go_ret
  exact ⟨by first | rfl | (simp; done) | (simp [*]; done), by repeat (first | exact Drawn0.refl _ | apply Drawn0.step)⟩
set_option maxHeartbeats 8000000 in
set_option maxRecDepth 100000 in
theorem spec_fgTo.wdot (s : ByteArray) (i j1 j2 m : Int) (w : World) (hm : wrap64 ((s.size : Int) - 1) = m) (A0 : spec_l1In.f i 0 m = some true) (p0 : 0 ≤ i) (q0 : i < (s.size : Int)) (e46 : (bt s i == 46) = true) :
    Calls Tryd.prog 58 #[.string s, .int .i64 i] w fun e w' => e = .returned (.int .i64 (-1)) ∧ Drawn0 w w' := by
  have hmw : IntKind.i64.wrap ((s.size : Int) - 1) = m := (i64_w _).trans hm
  have B0 := Aside0.mk A0
  clear A0
  have x0 := bt_at s i
  replace p0 := eq_true p0
  replace q0 := eq_true q0
  have n46 : (bt s i != 46) = false := by unfold bne; rw [e46]; rfl
  go_enter Tryd.func58, Tryd.ntmps58
  go_wp2_with (first | (go_at_call 56; (with_reducible refine (spec_l1In.calls i 0 m true _ B0.out).mono ?_); rintro e w' ⟨rfl, ⟨nd, rfl⟩⟩; (try first | exact ⟨rfl, _, World.drewN_drewN _ _ _⟩ | exact ⟨rfl, _, Eq.trans (World.drewN_drewN _ _ _) (congrArg (World.drewN _) (Nat.add_assoc _ _ _))⟩)))
  repeat (go_quiet (first | (go_at_call 56; (with_reducible refine (spec_l1In.calls i 0 m true _ B0.out).mono ?_); rintro e w' ⟨rfl, ⟨nd, rfl⟩⟩; (try first | exact ⟨rfl, _, World.drewN_drewN _ _ _⟩ | exact ⟨rfl, _, Eq.trans (World.drewN_drewN _ _ _) (congrArg (World.drewN _) (Nat.add_assoc _ _ _))⟩))); try go_wp2_with (first | (go_at_call 56; (with_reducible refine (spec_l1In.calls i 0 m true _ B0.out).mono ?_); rintro e w' ⟨rfl, ⟨nd, rfl⟩⟩; (try first | exact ⟨rfl, _, World.drewN_drewN _ _ _⟩ | exact ⟨rfl, _, Eq.trans (World.drewN_drewN _ _ _) (congrArg (World.drewN _) (Nat.add_assoc _ _ _))⟩))))
  go_ret
  exact ⟨by first | rfl | (simp; done) | (simp [*]; done), by repeat (first | exact Drawn0.refl _ | apply Drawn0.step)⟩
set_option maxHeartbeats 8000000 in
set_option maxRecDepth 100000 in
theorem spec_fgTo.wr1 (s : ByteArray) (i j1 j2 m : Int) (w : World) (hm : wrap64 ((s.size : Int) - 1) = m) (A0 : spec_l1In.f i 0 m = some true) (p0 : 0 ≤ i) (q0 : i < (s.size : Int)) (e46 : (bt s i == 46) = false) (e108 : (bt s i == 108) = false) (h0 : wrap64 (i + 1) = j1) (h1 : wrap64 (i + 2) = j2) (A1 : spec_l1In.f j1 0 m = some true) (p1 : 0 ≤ j1) (q1 : j1 < (s.size : Int)) (ea : (bt s j1 == 46) = true) :
    Calls Tryd.prog 58 #[.string s, .int .i64 i] w fun e w' => e = .returned (.int .i64 j1) ∧ Drawn0 w w' := by
  have hmw : IntKind.i64.wrap ((s.size : Int) - 1) = m := (i64_w _).trans hm
  have B0 := Aside0.mk A0
  clear A0
  have x0 := bt_at s i
  replace p0 := eq_true p0
  replace q0 := eq_true q0
  have n46 : (bt s i != 46) = true := by unfold bne; rw [e46]; rfl
  have n108 : (bt s i != 108) = true := by unfold bne; rw [e108]; rfl
  have h0w : IntKind.i64.wrap (i + 1) = j1 := (i64_w _).trans h0
  have h1w : IntKind.i64.wrap (i + 2) = j2 := (i64_w _).trans h1
  have B1 := Aside0.mk A1
  clear A1
  have x1 := bt_at s j1
  replace p1 := eq_true p1
  replace q1 := eq_true q1
  have na : (bt s j1 != 46) = false := by unfold bne; rw [ea]; rfl
  go_enter Tryd.func58, Tryd.ntmps58
  go_wp2_with (first | (go_at_call 56; (with_reducible refine (spec_l1In.calls i 0 m true _ B0.out).mono ?_); rintro e w' ⟨rfl, ⟨nd, rfl⟩⟩; (try first | exact ⟨rfl, _, World.drewN_drewN _ _ _⟩ | exact ⟨rfl, _, Eq.trans (World.drewN_drewN _ _ _) (congrArg (World.drewN _) (Nat.add_assoc _ _ _))⟩)) | (go_at_call 56; (with_reducible refine (spec_l1In.calls j1 0 m true _ B1.out).mono ?_); rintro e w' ⟨rfl, ⟨nd, rfl⟩⟩; (try first | exact ⟨rfl, _, World.drewN_drewN _ _ _⟩ | exact ⟨rfl, _, Eq.trans (World.drewN_drewN _ _ _) (congrArg (World.drewN _) (Nat.add_assoc _ _ _))⟩)))
  repeat (go_quiet (first | (go_at_call 56; (with_reducible refine (spec_l1In.calls i 0 m true _ B0.out).mono ?_); rintro e w' ⟨rfl, ⟨nd, rfl⟩⟩; (try first | exact ⟨rfl, _, World.drewN_drewN _ _ _⟩ | exact ⟨rfl, _, Eq.trans (World.drewN_drewN _ _ _) (congrArg (World.drewN _) (Nat.add_assoc _ _ _))⟩)) | (go_at_call 56; (with_reducible refine (spec_l1In.calls j1 0 m true _ B1.out).mono ?_); rintro e w' ⟨rfl, ⟨nd, rfl⟩⟩; (try first | exact ⟨rfl, _, World.drewN_drewN _ _ _⟩ | exact ⟨rfl, _, Eq.trans (World.drewN_drewN _ _ _) (congrArg (World.drewN _) (Nat.add_assoc _ _ _))⟩))); try go_wp2_with (first | (go_at_call 56; (with_reducible refine (spec_l1In.calls i 0 m true _ B0.out).mono ?_); rintro e w' ⟨rfl, ⟨nd, rfl⟩⟩; (try first | exact ⟨rfl, _, World.drewN_drewN _ _ _⟩ | exact ⟨rfl, _, Eq.trans (World.drewN_drewN _ _ _) (congrArg (World.drewN _) (Nat.add_assoc _ _ _))⟩)) | (go_at_call 56; (with_reducible refine (spec_l1In.calls j1 0 m true _ B1.out).mono ?_); rintro e w' ⟨rfl, ⟨nd, rfl⟩⟩; (try first | exact ⟨rfl, _, World.drewN_drewN _ _ _⟩ | exact ⟨rfl, _, Eq.trans (World.drewN_drewN _ _ _) (congrArg (World.drewN _) (Nat.add_assoc _ _ _))⟩))))
  go_ret
  exact ⟨by first | rfl | (simp; done) | (simp [*]; done), by repeat (first | exact Drawn0.refl _ | apply Drawn0.step)⟩
set_option maxHeartbeats 8000000 in
set_option maxRecDepth 100000 in
theorem spec_fgTo.wr1000 (s : ByteArray) (i j1 j2 m : Int) (w : World) (hm : wrap64 ((s.size : Int) - 1) = m) (A0 : spec_l1In.f i 0 m = some true) (p0 : 0 ≤ i) (q0 : i < (s.size : Int)) (e46 : (bt s i == 46) = false) (e108 : (bt s i == 108) = false) (h0 : wrap64 (i + 1) = j1) (h1 : wrap64 (i + 2) = j2) (A1 : spec_l1In.f j1 0 m = some true) (p1 : 0 ≤ j1) (q1 : j1 < (s.size : Int)) (ea : (bt s j1 == 46) = false) (A2 : spec_l1In.f j2 0 m = some false) :
    Calls Tryd.prog 58 #[.string s, .int .i64 i] w fun e w' => e = .returned (.int .i64 (-1)) ∧ Drawn0 w w' := by
  have hmw : IntKind.i64.wrap ((s.size : Int) - 1) = m := (i64_w _).trans hm
  have B0 := Aside0.mk A0
  clear A0
  have x0 := bt_at s i
  replace p0 := eq_true p0
  replace q0 := eq_true q0
  have n46 : (bt s i != 46) = true := by unfold bne; rw [e46]; rfl
  have n108 : (bt s i != 108) = true := by unfold bne; rw [e108]; rfl
  have h0w : IntKind.i64.wrap (i + 1) = j1 := (i64_w _).trans h0
  have h1w : IntKind.i64.wrap (i + 2) = j2 := (i64_w _).trans h1
  have B1 := Aside0.mk A1
  clear A1
  have x1 := bt_at s j1
  replace p1 := eq_true p1
  replace q1 := eq_true q1
  have na : (bt s j1 != 46) = true := by unfold bne; rw [ea]; rfl
  have B2 := Aside0.mk A2
  clear A2
  go_enter Tryd.func58, Tryd.ntmps58
  go_wp2_with (first | (go_at_call 56; (with_reducible refine (spec_l1In.calls i 0 m true _ B0.out).mono ?_); rintro e w' ⟨rfl, ⟨nd, rfl⟩⟩; (try first | exact ⟨rfl, _, World.drewN_drewN _ _ _⟩ | exact ⟨rfl, _, Eq.trans (World.drewN_drewN _ _ _) (congrArg (World.drewN _) (Nat.add_assoc _ _ _))⟩)) | (go_at_call 56; (with_reducible refine (spec_l1In.calls j1 0 m true _ B1.out).mono ?_); rintro e w' ⟨rfl, ⟨nd, rfl⟩⟩; (try first | exact ⟨rfl, _, World.drewN_drewN _ _ _⟩ | exact ⟨rfl, _, Eq.trans (World.drewN_drewN _ _ _) (congrArg (World.drewN _) (Nat.add_assoc _ _ _))⟩)) | (go_at_call 56; (with_reducible refine (spec_l1In.calls j2 0 m false _ B2.out).mono ?_); rintro e w' ⟨rfl, ⟨nd, rfl⟩⟩; (try first | exact ⟨rfl, _, World.drewN_drewN _ _ _⟩ | exact ⟨rfl, _, Eq.trans (World.drewN_drewN _ _ _) (congrArg (World.drewN _) (Nat.add_assoc _ _ _))⟩)))
  repeat (go_quiet (first | (go_at_call 56; (with_reducible refine (spec_l1In.calls i 0 m true _ B0.out).mono ?_); rintro e w' ⟨rfl, ⟨nd, rfl⟩⟩; (try first | exact ⟨rfl, _, World.drewN_drewN _ _ _⟩ | exact ⟨rfl, _, Eq.trans (World.drewN_drewN _ _ _) (congrArg (World.drewN _) (Nat.add_assoc _ _ _))⟩)) | (go_at_call 56; (with_reducible refine (spec_l1In.calls j1 0 m true _ B1.out).mono ?_); rintro e w' ⟨rfl, ⟨nd, rfl⟩⟩; (try first | exact ⟨rfl, _, World.drewN_drewN _ _ _⟩ | exact ⟨rfl, _, Eq.trans (World.drewN_drewN _ _ _) (congrArg (World.drewN _) (Nat.add_assoc _ _ _))⟩)) | (go_at_call 56; (with_reducible refine (spec_l1In.calls j2 0 m false _ B2.out).mono ?_); rintro e w' ⟨rfl, ⟨nd, rfl⟩⟩; (try first | exact ⟨rfl, _, World.drewN_drewN _ _ _⟩ | exact ⟨rfl, _, Eq.trans (World.drewN_drewN _ _ _) (congrArg (World.drewN _) (Nat.add_assoc _ _ _))⟩))); try go_wp2_with (first | (go_at_call 56; (with_reducible refine (spec_l1In.calls i 0 m true _ B0.out).mono ?_); rintro e w' ⟨rfl, ⟨nd, rfl⟩⟩; (try first | exact ⟨rfl, _, World.drewN_drewN _ _ _⟩ | exact ⟨rfl, _, Eq.trans (World.drewN_drewN _ _ _) (congrArg (World.drewN _) (Nat.add_assoc _ _ _))⟩)) | (go_at_call 56; (with_reducible refine (spec_l1In.calls j1 0 m true _ B1.out).mono ?_); rintro e w' ⟨rfl, ⟨nd, rfl⟩⟩; (try first | exact ⟨rfl, _, World.drewN_drewN _ _ _⟩ | exact ⟨rfl, _, Eq.trans (World.drewN_drewN _ _ _) (congrArg (World.drewN _) (Nat.add_assoc _ _ _))⟩)) | (go_at_call 56; (with_reducible refine (spec_l1In.calls j2 0 m false _ B2.out).mono ?_); rintro e w' ⟨rfl, ⟨nd, rfl⟩⟩; (try first | exact ⟨rfl, _, World.drewN_drewN _ _ _⟩ | exact ⟨rfl, _, Eq.trans (World.drewN_drewN _ _ _) (congrArg (World.drewN _) (Nat.add_assoc _ _ _))⟩))))
  go_ret
  exact ⟨by first | rfl | (simp; done) | (simp [*]; done), by repeat (first | exact Drawn0.refl _ | apply Drawn0.step)⟩
set_option maxHeartbeats 8000000 in
set_option maxRecDepth 100000 in
theorem spec_fgTo.wr1100 (s : ByteArray) (i j1 j2 m : Int) (w : World) (hm : wrap64 ((s.size : Int) - 1) = m) (A0 : spec_l1In.f i 0 m = some true) (p0 : 0 ≤ i) (q0 : i < (s.size : Int)) (e46 : (bt s i == 46) = false) (e108 : (bt s i == 108) = false) (h0 : wrap64 (i + 1) = j1) (h1 : wrap64 (i + 2) = j2) (A1 : spec_l1In.f j1 0 m = some true) (p1 : 0 ≤ j1) (q1 : j1 < (s.size : Int)) (ea : (bt s j1 == 46) = false) (A2 : spec_l1In.f j2 0 m = some true) (p2 : 0 ≤ j2) (q2 : j2 < (s.size : Int)) (eb : (bt s j2 == 46) = false) :
    Calls Tryd.prog 58 #[.string s, .int .i64 i] w fun e w' => e = .returned (.int .i64 (-1)) ∧ Drawn0 w w' := by
  have hmw : IntKind.i64.wrap ((s.size : Int) - 1) = m := (i64_w _).trans hm
  have B0 := Aside0.mk A0
  clear A0
  have x0 := bt_at s i
  replace p0 := eq_true p0
  replace q0 := eq_true q0
  have n46 : (bt s i != 46) = true := by unfold bne; rw [e46]; rfl
  have n108 : (bt s i != 108) = true := by unfold bne; rw [e108]; rfl
  have h0w : IntKind.i64.wrap (i + 1) = j1 := (i64_w _).trans h0
  have h1w : IntKind.i64.wrap (i + 2) = j2 := (i64_w _).trans h1
  have B1 := Aside0.mk A1
  clear A1
  have x1 := bt_at s j1
  replace p1 := eq_true p1
  replace q1 := eq_true q1
  have na : (bt s j1 != 46) = true := by unfold bne; rw [ea]; rfl
  have B2 := Aside0.mk A2
  clear A2
  have x2 := bt_at s j2
  replace p2 := eq_true p2
  replace q2 := eq_true q2
  have nb : (bt s j2 != 46) = true := by unfold bne; rw [eb]; rfl
  go_enter Tryd.func58, Tryd.ntmps58
  go_wp2_with (first | (go_at_call 56; (with_reducible refine (spec_l1In.calls i 0 m true _ B0.out).mono ?_); rintro e w' ⟨rfl, ⟨nd, rfl⟩⟩; (try first | exact ⟨rfl, _, World.drewN_drewN _ _ _⟩ | exact ⟨rfl, _, Eq.trans (World.drewN_drewN _ _ _) (congrArg (World.drewN _) (Nat.add_assoc _ _ _))⟩)) | (go_at_call 56; (with_reducible refine (spec_l1In.calls j1 0 m true _ B1.out).mono ?_); rintro e w' ⟨rfl, ⟨nd, rfl⟩⟩; (try first | exact ⟨rfl, _, World.drewN_drewN _ _ _⟩ | exact ⟨rfl, _, Eq.trans (World.drewN_drewN _ _ _) (congrArg (World.drewN _) (Nat.add_assoc _ _ _))⟩)) | (go_at_call 56; (with_reducible refine (spec_l1In.calls j2 0 m true _ B2.out).mono ?_); rintro e w' ⟨rfl, ⟨nd, rfl⟩⟩; (try first | exact ⟨rfl, _, World.drewN_drewN _ _ _⟩ | exact ⟨rfl, _, Eq.trans (World.drewN_drewN _ _ _) (congrArg (World.drewN _) (Nat.add_assoc _ _ _))⟩)))
  repeat (go_quiet (first | (go_at_call 56; (with_reducible refine (spec_l1In.calls i 0 m true _ B0.out).mono ?_); rintro e w' ⟨rfl, ⟨nd, rfl⟩⟩; (try first | exact ⟨rfl, _, World.drewN_drewN _ _ _⟩ | exact ⟨rfl, _, Eq.trans (World.drewN_drewN _ _ _) (congrArg (World.drewN _) (Nat.add_assoc _ _ _))⟩)) | (go_at_call 56; (with_reducible refine (spec_l1In.calls j1 0 m true _ B1.out).mono ?_); rintro e w' ⟨rfl, ⟨nd, rfl⟩⟩; (try first | exact ⟨rfl, _, World.drewN_drewN _ _ _⟩ | exact ⟨rfl, _, Eq.trans (World.drewN_drewN _ _ _) (congrArg (World.drewN _) (Nat.add_assoc _ _ _))⟩)) | (go_at_call 56; (with_reducible refine (spec_l1In.calls j2 0 m true _ B2.out).mono ?_); rintro e w' ⟨rfl, ⟨nd, rfl⟩⟩; (try first | exact ⟨rfl, _, World.drewN_drewN _ _ _⟩ | exact ⟨rfl, _, Eq.trans (World.drewN_drewN _ _ _) (congrArg (World.drewN _) (Nat.add_assoc _ _ _))⟩))); try go_wp2_with (first | (go_at_call 56; (with_reducible refine (spec_l1In.calls i 0 m true _ B0.out).mono ?_); rintro e w' ⟨rfl, ⟨nd, rfl⟩⟩; (try first | exact ⟨rfl, _, World.drewN_drewN _ _ _⟩ | exact ⟨rfl, _, Eq.trans (World.drewN_drewN _ _ _) (congrArg (World.drewN _) (Nat.add_assoc _ _ _))⟩)) | (go_at_call 56; (with_reducible refine (spec_l1In.calls j1 0 m true _ B1.out).mono ?_); rintro e w' ⟨rfl, ⟨nd, rfl⟩⟩; (try first | exact ⟨rfl, _, World.drewN_drewN _ _ _⟩ | exact ⟨rfl, _, Eq.trans (World.drewN_drewN _ _ _) (congrArg (World.drewN _) (Nat.add_assoc _ _ _))⟩)) | (go_at_call 56; (with_reducible refine (spec_l1In.calls j2 0 m true _ B2.out).mono ?_); rintro e w' ⟨rfl, ⟨nd, rfl⟩⟩; (try first | exact ⟨rfl, _, World.drewN_drewN _ _ _⟩ | exact ⟨rfl, _, Eq.trans (World.drewN_drewN _ _ _) (congrArg (World.drewN _) (Nat.add_assoc _ _ _))⟩))))
  go_ret
  exact ⟨by first | rfl | (simp; done) | (simp [*]; done), by repeat (first | exact Drawn0.refl _ | apply Drawn0.step)⟩
set_option maxHeartbeats 8000000 in
set_option maxRecDepth 100000 in
theorem spec_fgTo.wr1110 (s : ByteArray) (i j1 j2 m : Int) (w : World) (hm : wrap64 ((s.size : Int) - 1) = m) (A0 : spec_l1In.f i 0 m = some true) (p0 : 0 ≤ i) (q0 : i < (s.size : Int)) (e46 : (bt s i == 46) = false) (e108 : (bt s i == 108) = false) (h0 : wrap64 (i + 1) = j1) (h1 : wrap64 (i + 2) = j2) (A1 : spec_l1In.f j1 0 m = some true) (p1 : 0 ≤ j1) (q1 : j1 < (s.size : Int)) (ea : (bt s j1 == 46) = false) (A2 : spec_l1In.f j2 0 m = some true) (p2 : 0 ≤ j2) (q2 : j2 < (s.size : Int)) (eb : (bt s j2 == 46) = true) (ec : (bt s j1 == bt s i) = true) :
    Calls Tryd.prog 58 #[.string s, .int .i64 i] w fun e w' => e = .returned (.int .i64 (-1)) ∧ Drawn0 w w' := by
  have hmw : IntKind.i64.wrap ((s.size : Int) - 1) = m := (i64_w _).trans hm
  have B0 := Aside0.mk A0
  clear A0
  have x0 := bt_at s i
  replace p0 := eq_true p0
  replace q0 := eq_true q0
  have n46 : (bt s i != 46) = true := by unfold bne; rw [e46]; rfl
  have n108 : (bt s i != 108) = true := by unfold bne; rw [e108]; rfl
  have h0w : IntKind.i64.wrap (i + 1) = j1 := (i64_w _).trans h0
  have h1w : IntKind.i64.wrap (i + 2) = j2 := (i64_w _).trans h1
  have B1 := Aside0.mk A1
  clear A1
  have x1 := bt_at s j1
  replace p1 := eq_true p1
  replace q1 := eq_true q1
  have na : (bt s j1 != 46) = true := by unfold bne; rw [ea]; rfl
  have B2 := Aside0.mk A2
  clear A2
  have x2 := bt_at s j2
  replace p2 := eq_true p2
  replace q2 := eq_true q2
  have nb : (bt s j2 != 46) = false := by unfold bne; rw [eb]; rfl
  have nc : (bt s j1 != bt s i) = false := by unfold bne; rw [ec]; rfl
  go_enter Tryd.func58, Tryd.ntmps58
  go_wp2_with (first | (go_at_call 56; (with_reducible refine (spec_l1In.calls i 0 m true _ B0.out).mono ?_); rintro e w' ⟨rfl, ⟨nd, rfl⟩⟩; (try first | exact ⟨rfl, _, World.drewN_drewN _ _ _⟩ | exact ⟨rfl, _, Eq.trans (World.drewN_drewN _ _ _) (congrArg (World.drewN _) (Nat.add_assoc _ _ _))⟩)) | (go_at_call 56; (with_reducible refine (spec_l1In.calls j1 0 m true _ B1.out).mono ?_); rintro e w' ⟨rfl, ⟨nd, rfl⟩⟩; (try first | exact ⟨rfl, _, World.drewN_drewN _ _ _⟩ | exact ⟨rfl, _, Eq.trans (World.drewN_drewN _ _ _) (congrArg (World.drewN _) (Nat.add_assoc _ _ _))⟩)) | (go_at_call 56; (with_reducible refine (spec_l1In.calls j2 0 m true _ B2.out).mono ?_); rintro e w' ⟨rfl, ⟨nd, rfl⟩⟩; (try first | exact ⟨rfl, _, World.drewN_drewN _ _ _⟩ | exact ⟨rfl, _, Eq.trans (World.drewN_drewN _ _ _) (congrArg (World.drewN _) (Nat.add_assoc _ _ _))⟩)))
  repeat (go_quiet (first | (go_at_call 56; (with_reducible refine (spec_l1In.calls i 0 m true _ B0.out).mono ?_); rintro e w' ⟨rfl, ⟨nd, rfl⟩⟩; (try first | exact ⟨rfl, _, World.drewN_drewN _ _ _⟩ | exact ⟨rfl, _, Eq.trans (World.drewN_drewN _ _ _) (congrArg (World.drewN _) (Nat.add_assoc _ _ _))⟩)) | (go_at_call 56; (with_reducible refine (spec_l1In.calls j1 0 m true _ B1.out).mono ?_); rintro e w' ⟨rfl, ⟨nd, rfl⟩⟩; (try first | exact ⟨rfl, _, World.drewN_drewN _ _ _⟩ | exact ⟨rfl, _, Eq.trans (World.drewN_drewN _ _ _) (congrArg (World.drewN _) (Nat.add_assoc _ _ _))⟩)) | (go_at_call 56; (with_reducible refine (spec_l1In.calls j2 0 m true _ B2.out).mono ?_); rintro e w' ⟨rfl, ⟨nd, rfl⟩⟩; (try first | exact ⟨rfl, _, World.drewN_drewN _ _ _⟩ | exact ⟨rfl, _, Eq.trans (World.drewN_drewN _ _ _) (congrArg (World.drewN _) (Nat.add_assoc _ _ _))⟩))); try go_wp2_with (first | (go_at_call 56; (with_reducible refine (spec_l1In.calls i 0 m true _ B0.out).mono ?_); rintro e w' ⟨rfl, ⟨nd, rfl⟩⟩; (try first | exact ⟨rfl, _, World.drewN_drewN _ _ _⟩ | exact ⟨rfl, _, Eq.trans (World.drewN_drewN _ _ _) (congrArg (World.drewN _) (Nat.add_assoc _ _ _))⟩)) | (go_at_call 56; (with_reducible refine (spec_l1In.calls j1 0 m true _ B1.out).mono ?_); rintro e w' ⟨rfl, ⟨nd, rfl⟩⟩; (try first | exact ⟨rfl, _, World.drewN_drewN _ _ _⟩ | exact ⟨rfl, _, Eq.trans (World.drewN_drewN _ _ _) (congrArg (World.drewN _) (Nat.add_assoc _ _ _))⟩)) | (go_at_call 56; (with_reducible refine (spec_l1In.calls j2 0 m true _ B2.out).mono ?_); rintro e w' ⟨rfl, ⟨nd, rfl⟩⟩; (try first | exact ⟨rfl, _, World.drewN_drewN _ _ _⟩ | exact ⟨rfl, _, Eq.trans (World.drewN_drewN _ _ _) (congrArg (World.drewN _) (Nat.add_assoc _ _ _))⟩))))
  go_ret
  exact ⟨by first | rfl | (simp; done) | (simp [*]; done), by repeat (first | exact Drawn0.refl _ | apply Drawn0.step)⟩
set_option maxHeartbeats 8000000 in
set_option maxRecDepth 100000 in
theorem spec_fgTo.wr1111 (s : ByteArray) (i j1 j2 m : Int) (w : World) (hm : wrap64 ((s.size : Int) - 1) = m) (A0 : spec_l1In.f i 0 m = some true) (p0 : 0 ≤ i) (q0 : i < (s.size : Int)) (e46 : (bt s i == 46) = false) (e108 : (bt s i == 108) = false) (h0 : wrap64 (i + 1) = j1) (h1 : wrap64 (i + 2) = j2) (A1 : spec_l1In.f j1 0 m = some true) (p1 : 0 ≤ j1) (q1 : j1 < (s.size : Int)) (ea : (bt s j1 == 46) = false) (A2 : spec_l1In.f j2 0 m = some true) (p2 : 0 ≤ j2) (q2 : j2 < (s.size : Int)) (eb : (bt s j2 == 46) = true) (ec : (bt s j1 == bt s i) = false) :
    Calls Tryd.prog 58 #[.string s, .int .i64 i] w fun e w' => e = .returned (.int .i64 j2) ∧ Drawn0 w w' := by
  have hmw : IntKind.i64.wrap ((s.size : Int) - 1) = m := (i64_w _).trans hm
  have B0 := Aside0.mk A0
  clear A0
  have x0 := bt_at s i
  replace p0 := eq_true p0
  replace q0 := eq_true q0
  have n46 : (bt s i != 46) = true := by unfold bne; rw [e46]; rfl
  have n108 : (bt s i != 108) = true := by unfold bne; rw [e108]; rfl
  have h0w : IntKind.i64.wrap (i + 1) = j1 := (i64_w _).trans h0
  have h1w : IntKind.i64.wrap (i + 2) = j2 := (i64_w _).trans h1
  have B1 := Aside0.mk A1
  clear A1
  have x1 := bt_at s j1
  replace p1 := eq_true p1
  replace q1 := eq_true q1
  have na : (bt s j1 != 46) = true := by unfold bne; rw [ea]; rfl
  have B2 := Aside0.mk A2
  clear A2
  have x2 := bt_at s j2
  replace p2 := eq_true p2
  replace q2 := eq_true q2
  have nb : (bt s j2 != 46) = false := by unfold bne; rw [eb]; rfl
  have nc : (bt s j1 != bt s i) = true := by unfold bne; rw [ec]; rfl
  go_enter Tryd.func58, Tryd.ntmps58
  go_wp2_with (first | (go_at_call 56; (with_reducible refine (spec_l1In.calls i 0 m true _ B0.out).mono ?_); rintro e w' ⟨rfl, ⟨nd, rfl⟩⟩; (try first | exact ⟨rfl, _, World.drewN_drewN _ _ _⟩ | exact ⟨rfl, _, Eq.trans (World.drewN_drewN _ _ _) (congrArg (World.drewN _) (Nat.add_assoc _ _ _))⟩)) | (go_at_call 56; (with_reducible refine (spec_l1In.calls j1 0 m true _ B1.out).mono ?_); rintro e w' ⟨rfl, ⟨nd, rfl⟩⟩; (try first | exact ⟨rfl, _, World.drewN_drewN _ _ _⟩ | exact ⟨rfl, _, Eq.trans (World.drewN_drewN _ _ _) (congrArg (World.drewN _) (Nat.add_assoc _ _ _))⟩)) | (go_at_call 56; (with_reducible refine (spec_l1In.calls j2 0 m true _ B2.out).mono ?_); rintro e w' ⟨rfl, ⟨nd, rfl⟩⟩; (try first | exact ⟨rfl, _, World.drewN_drewN _ _ _⟩ | exact ⟨rfl, _, Eq.trans (World.drewN_drewN _ _ _) (congrArg (World.drewN _) (Nat.add_assoc _ _ _))⟩)))
  repeat (go_quiet (first | (go_at_call 56; (with_reducible refine (spec_l1In.calls i 0 m true _ B0.out).mono ?_); rintro e w' ⟨rfl, ⟨nd, rfl⟩⟩; (try first | exact ⟨rfl, _, World.drewN_drewN _ _ _⟩ | exact ⟨rfl, _, Eq.trans (World.drewN_drewN _ _ _) (congrArg (World.drewN _) (Nat.add_assoc _ _ _))⟩)) | (go_at_call 56; (with_reducible refine (spec_l1In.calls j1 0 m true _ B1.out).mono ?_); rintro e w' ⟨rfl, ⟨nd, rfl⟩⟩; (try first | exact ⟨rfl, _, World.drewN_drewN _ _ _⟩ | exact ⟨rfl, _, Eq.trans (World.drewN_drewN _ _ _) (congrArg (World.drewN _) (Nat.add_assoc _ _ _))⟩)) | (go_at_call 56; (with_reducible refine (spec_l1In.calls j2 0 m true _ B2.out).mono ?_); rintro e w' ⟨rfl, ⟨nd, rfl⟩⟩; (try first | exact ⟨rfl, _, World.drewN_drewN _ _ _⟩ | exact ⟨rfl, _, Eq.trans (World.drewN_drewN _ _ _) (congrArg (World.drewN _) (Nat.add_assoc _ _ _))⟩))); try go_wp2_with (first | (go_at_call 56; (with_reducible refine (spec_l1In.calls i 0 m true _ B0.out).mono ?_); rintro e w' ⟨rfl, ⟨nd, rfl⟩⟩; (try first | exact ⟨rfl, _, World.drewN_drewN _ _ _⟩ | exact ⟨rfl, _, Eq.trans (World.drewN_drewN _ _ _) (congrArg (World.drewN _) (Nat.add_assoc _ _ _))⟩)) | (go_at_call 56; (with_reducible refine (spec_l1In.calls j1 0 m true _ B1.out).mono ?_); rintro e w' ⟨rfl, ⟨nd, rfl⟩⟩; (try first | exact ⟨rfl, _, World.drewN_drewN _ _ _⟩ | exact ⟨rfl, _, Eq.trans (World.drewN_drewN _ _ _) (congrArg (World.drewN _) (Nat.add_assoc _ _ _))⟩)) | (go_at_call 56; (with_reducible refine (spec_l1In.calls j2 0 m true _ B2.out).mono ?_); rintro e w' ⟨rfl, ⟨nd, rfl⟩⟩; (try first | exact ⟨rfl, _, World.drewN_drewN _ _ _⟩ | exact ⟨rfl, _, Eq.trans (World.drewN_drewN _ _ _) (congrArg (World.drewN _) (Nat.add_assoc _ _ _))⟩))))
  go_ret
  exact ⟨by first | rfl | (simp; done) | (simp [*]; done), by repeat (first | exact Drawn0.refl _ | apply Drawn0.step)⟩
set_option maxHeartbeats 8000000 in
set_option maxRecDepth 100000 in
theorem spec_fgTo.wr0000 (s : ByteArray) (i j1 j2 m : Int) (w : World) (hm : wrap64 ((s.size : Int) - 1) = m) (A0 : spec_l1In.f i 0 m = some true) (p0 : 0 ≤ i) (q0 : i < (s.size : Int)) (e46 : (bt s i == 46) = false) (e108 : (bt s i == 108) = false) (h0 : wrap64 (i + 1) = j1) (h1 : wrap64 (i + 2) = j2) (A1 : spec_l1In.f j1 0 m = some false) (A2 : spec_l1In.f j2 0 m = some false) :
    Calls Tryd.prog 58 #[.string s, .int .i64 i] w fun e w' => e = .returned (.int .i64 (-1)) ∧ Drawn0 w w' := by
  have hmw : IntKind.i64.wrap ((s.size : Int) - 1) = m := (i64_w _).trans hm
  have B0 := Aside0.mk A0
  clear A0
  have x0 := bt_at s i
  replace p0 := eq_true p0
  replace q0 := eq_true q0
  have n46 : (bt s i != 46) = true := by unfold bne; rw [e46]; rfl
  have n108 : (bt s i != 108) = true := by unfold bne; rw [e108]; rfl
  have h0w : IntKind.i64.wrap (i + 1) = j1 := (i64_w _).trans h0
  have h1w : IntKind.i64.wrap (i + 2) = j2 := (i64_w _).trans h1
  have B1 := Aside0.mk A1
  clear A1
  have B2 := Aside0.mk A2
  clear A2
  go_enter Tryd.func58, Tryd.ntmps58
  go_wp2_with (first | (go_at_call 56; (with_reducible refine (spec_l1In.calls i 0 m true _ B0.out).mono ?_); rintro e w' ⟨rfl, ⟨nd, rfl⟩⟩; (try first | exact ⟨rfl, _, World.drewN_drewN _ _ _⟩ | exact ⟨rfl, _, Eq.trans (World.drewN_drewN _ _ _) (congrArg (World.drewN _) (Nat.add_assoc _ _ _))⟩)) | (go_at_call 56; (with_reducible refine (spec_l1In.calls j1 0 m false _ B1.out).mono ?_); rintro e w' ⟨rfl, ⟨nd, rfl⟩⟩; (try first | exact ⟨rfl, _, World.drewN_drewN _ _ _⟩ | exact ⟨rfl, _, Eq.trans (World.drewN_drewN _ _ _) (congrArg (World.drewN _) (Nat.add_assoc _ _ _))⟩)) | (go_at_call 56; (with_reducible refine (spec_l1In.calls j2 0 m false _ B2.out).mono ?_); rintro e w' ⟨rfl, ⟨nd, rfl⟩⟩; (try first | exact ⟨rfl, _, World.drewN_drewN _ _ _⟩ | exact ⟨rfl, _, Eq.trans (World.drewN_drewN _ _ _) (congrArg (World.drewN _) (Nat.add_assoc _ _ _))⟩)))
  repeat (go_quiet (first | (go_at_call 56; (with_reducible refine (spec_l1In.calls i 0 m true _ B0.out).mono ?_); rintro e w' ⟨rfl, ⟨nd, rfl⟩⟩; (try first | exact ⟨rfl, _, World.drewN_drewN _ _ _⟩ | exact ⟨rfl, _, Eq.trans (World.drewN_drewN _ _ _) (congrArg (World.drewN _) (Nat.add_assoc _ _ _))⟩)) | (go_at_call 56; (with_reducible refine (spec_l1In.calls j1 0 m false _ B1.out).mono ?_); rintro e w' ⟨rfl, ⟨nd, rfl⟩⟩; (try first | exact ⟨rfl, _, World.drewN_drewN _ _ _⟩ | exact ⟨rfl, _, Eq.trans (World.drewN_drewN _ _ _) (congrArg (World.drewN _) (Nat.add_assoc _ _ _))⟩)) | (go_at_call 56; (with_reducible refine (spec_l1In.calls j2 0 m false _ B2.out).mono ?_); rintro e w' ⟨rfl, ⟨nd, rfl⟩⟩; (try first | exact ⟨rfl, _, World.drewN_drewN _ _ _⟩ | exact ⟨rfl, _, Eq.trans (World.drewN_drewN _ _ _) (congrArg (World.drewN _) (Nat.add_assoc _ _ _))⟩))); try go_wp2_with (first | (go_at_call 56; (with_reducible refine (spec_l1In.calls i 0 m true _ B0.out).mono ?_); rintro e w' ⟨rfl, ⟨nd, rfl⟩⟩; (try first | exact ⟨rfl, _, World.drewN_drewN _ _ _⟩ | exact ⟨rfl, _, Eq.trans (World.drewN_drewN _ _ _) (congrArg (World.drewN _) (Nat.add_assoc _ _ _))⟩)) | (go_at_call 56; (with_reducible refine (spec_l1In.calls j1 0 m false _ B1.out).mono ?_); rintro e w' ⟨rfl, ⟨nd, rfl⟩⟩; (try first | exact ⟨rfl, _, World.drewN_drewN _ _ _⟩ | exact ⟨rfl, _, Eq.trans (World.drewN_drewN _ _ _) (congrArg (World.drewN _) (Nat.add_assoc _ _ _))⟩)) | (go_at_call 56; (with_reducible refine (spec_l1In.calls j2 0 m false _ B2.out).mono ?_); rintro e w' ⟨rfl, ⟨nd, rfl⟩⟩; (try first | exact ⟨rfl, _, World.drewN_drewN _ _ _⟩ | exact ⟨rfl, _, Eq.trans (World.drewN_drewN _ _ _) (congrArg (World.drewN _) (Nat.add_assoc _ _ _))⟩))))
  go_ret
  exact ⟨by first | rfl | (simp; done) | (simp [*]; done), by repeat (first | exact Drawn0.refl _ | apply Drawn0.step)⟩
set_option maxHeartbeats 8000000 in
set_option maxRecDepth 100000 in
theorem spec_fgTo.wl1 (s : ByteArray) (i j1 j2 m : Int) (w : World) (hm : wrap64 ((s.size : Int) - 1) = m) (A0 : spec_l1In.f i 0 m = some true) (p0 : 0 ≤ i) (q0 : i < (s.size : Int)) (e46 : (bt s i == 46) = false) (e108 : (bt s i == 108) = true) (h0 : wrap64 (i + -1) = j1) (h1 : wrap64 (i + -2) = j2) (h2 : wrap64 (i - 1) = j1) (h3 : wrap64 (i - 2) = j2) (A1 : spec_l1In.f j1 0 m = some true) (p1 : 0 ≤ j1) (q1 : j1 < (s.size : Int)) (ea : (bt s j1 == 46) = true) :
    Calls Tryd.prog 58 #[.string s, .int .i64 i] w fun e w' => e = .returned (.int .i64 j1) ∧ Drawn0 w w' := by
  have hmw : IntKind.i64.wrap ((s.size : Int) - 1) = m := (i64_w _).trans hm
  have B0 := Aside0.mk A0
  clear A0
  have x0 := bt_at s i
  replace p0 := eq_true p0
  replace q0 := eq_true q0
  have n46 : (bt s i != 46) = true := by unfold bne; rw [e46]; rfl
  have n108 : (bt s i != 108) = false := by unfold bne; rw [e108]; rfl
  have h0w : IntKind.i64.wrap (i + -1) = j1 := (i64_w _).trans h0
  have h1w : IntKind.i64.wrap (i + -2) = j2 := (i64_w _).trans h1
  have h2w : IntKind.i64.wrap (i - 1) = j1 := (i64_w _).trans h2
  have h3w : IntKind.i64.wrap (i - 2) = j2 := (i64_w _).trans h3
  have B1 := Aside0.mk A1
  clear A1
  have x1 := bt_at s j1
  replace p1 := eq_true p1
  replace q1 := eq_true q1
  have na : (bt s j1 != 46) = false := by unfold bne; rw [ea]; rfl
  go_enter Tryd.func58, Tryd.ntmps58
  go_wp2_with (first | (go_at_call 56; (with_reducible refine (spec_l1In.calls i 0 m true _ B0.out).mono ?_); rintro e w' ⟨rfl, ⟨nd, rfl⟩⟩; (try first | exact ⟨rfl, _, World.drewN_drewN _ _ _⟩ | exact ⟨rfl, _, Eq.trans (World.drewN_drewN _ _ _) (congrArg (World.drewN _) (Nat.add_assoc _ _ _))⟩)) | (go_at_call 56; (with_reducible refine (spec_l1In.calls j1 0 m true _ B1.out).mono ?_); rintro e w' ⟨rfl, ⟨nd, rfl⟩⟩; (try first | exact ⟨rfl, _, World.drewN_drewN _ _ _⟩ | exact ⟨rfl, _, Eq.trans (World.drewN_drewN _ _ _) (congrArg (World.drewN _) (Nat.add_assoc _ _ _))⟩)))
  repeat (go_quiet (first | (go_at_call 56; (with_reducible refine (spec_l1In.calls i 0 m true _ B0.out).mono ?_); rintro e w' ⟨rfl, ⟨nd, rfl⟩⟩; (try first | exact ⟨rfl, _, World.drewN_drewN _ _ _⟩ | exact ⟨rfl, _, Eq.trans (World.drewN_drewN _ _ _) (congrArg (World.drewN _) (Nat.add_assoc _ _ _))⟩)) | (go_at_call 56; (with_reducible refine (spec_l1In.calls j1 0 m true _ B1.out).mono ?_); rintro e w' ⟨rfl, ⟨nd, rfl⟩⟩; (try first | exact ⟨rfl, _, World.drewN_drewN _ _ _⟩ | exact ⟨rfl, _, Eq.trans (World.drewN_drewN _ _ _) (congrArg (World.drewN _) (Nat.add_assoc _ _ _))⟩))); try go_wp2_with (first | (go_at_call 56; (with_reducible refine (spec_l1In.calls i 0 m true _ B0.out).mono ?_); rintro e w' ⟨rfl, ⟨nd, rfl⟩⟩; (try first | exact ⟨rfl, _, World.drewN_drewN _ _ _⟩ | exact ⟨rfl, _, Eq.trans (World.drewN_drewN _ _ _) (congrArg (World.drewN _) (Nat.add_assoc _ _ _))⟩)) | (go_at_call 56; (with_reducible refine (spec_l1In.calls j1 0 m true _ B1.out).mono ?_); rintro e w' ⟨rfl, ⟨nd, rfl⟩⟩; (try first | exact ⟨rfl, _, World.drewN_drewN _ _ _⟩ | exact ⟨rfl, _, Eq.trans (World.drewN_drewN _ _ _) (congrArg (World.drewN _) (Nat.add_assoc _ _ _))⟩))))
  go_ret
  exact ⟨by first | rfl | (simp; done) | (simp [*]; done), by repeat (first | exact Drawn0.refl _ | apply Drawn0.step)⟩
set_option maxHeartbeats 8000000 in
set_option maxRecDepth 100000 in
theorem spec_fgTo.wl1000 (s : ByteArray) (i j1 j2 m : Int) (w : World) (hm : wrap64 ((s.size : Int) - 1) = m) (A0 : spec_l1In.f i 0 m = some true) (p0 : 0 ≤ i) (q0 : i < (s.size : Int)) (e46 : (bt s i == 46) = false) (e108 : (bt s i == 108) = true) (h0 : wrap64 (i + -1) = j1) (h1 : wrap64 (i + -2) = j2) (h2 : wrap64 (i - 1) = j1) (h3 : wrap64 (i - 2) = j2) (A1 : spec_l1In.f j1 0 m = some true) (p1 : 0 ≤ j1) (q1 : j1 < (s.size : Int)) (ea : (bt s j1 == 46) = false) (A2 : spec_l1In.f j2 0 m = some false) :
    Calls Tryd.prog 58 #[.string s, .int .i64 i] w fun e w' => e = .returned (.int .i64 (-1)) ∧ Drawn0 w w' := by
  have hmw : IntKind.i64.wrap ((s.size : Int) - 1) = m := (i64_w _).trans hm
  have B0 := Aside0.mk A0
  clear A0
  have x0 := bt_at s i
  replace p0 := eq_true p0
  replace q0 := eq_true q0
  have n46 : (bt s i != 46) = true := by unfold bne; rw [e46]; rfl
  have n108 : (bt s i != 108) = false := by unfold bne; rw [e108]; rfl
  have h0w : IntKind.i64.wrap (i + -1) = j1 := (i64_w _).trans h0
  have h1w : IntKind.i64.wrap (i + -2) = j2 := (i64_w _).trans h1
  have h2w : IntKind.i64.wrap (i - 1) = j1 := (i64_w _).trans h2
  have h3w : IntKind.i64.wrap (i - 2) = j2 := (i64_w _).trans h3
  have B1 := Aside0.mk A1
  clear A1
  have x1 := bt_at s j1
  replace p1 := eq_true p1
  replace q1 := eq_true q1
  have na : (bt s j1 != 46) = true := by unfold bne; rw [ea]; rfl
  have B2 := Aside0.mk A2
  clear A2
  go_enter Tryd.func58, Tryd.ntmps58
  go_wp2_with (first | (go_at_call 56; (with_reducible refine (spec_l1In.calls i 0 m true _ B0.out).mono ?_); rintro e w' ⟨rfl, ⟨nd, rfl⟩⟩; (try first | exact ⟨rfl, _, World.drewN_drewN _ _ _⟩ | exact ⟨rfl, _, Eq.trans (World.drewN_drewN _ _ _) (congrArg (World.drewN _) (Nat.add_assoc _ _ _))⟩)) | (go_at_call 56; (with_reducible refine (spec_l1In.calls j1 0 m true _ B1.out).mono ?_); rintro e w' ⟨rfl, ⟨nd, rfl⟩⟩; (try first | exact ⟨rfl, _, World.drewN_drewN _ _ _⟩ | exact ⟨rfl, _, Eq.trans (World.drewN_drewN _ _ _) (congrArg (World.drewN _) (Nat.add_assoc _ _ _))⟩)) | (go_at_call 56; (with_reducible refine (spec_l1In.calls j2 0 m false _ B2.out).mono ?_); rintro e w' ⟨rfl, ⟨nd, rfl⟩⟩; (try first | exact ⟨rfl, _, World.drewN_drewN _ _ _⟩ | exact ⟨rfl, _, Eq.trans (World.drewN_drewN _ _ _) (congrArg (World.drewN _) (Nat.add_assoc _ _ _))⟩)))
  repeat (go_quiet (first | (go_at_call 56; (with_reducible refine (spec_l1In.calls i 0 m true _ B0.out).mono ?_); rintro e w' ⟨rfl, ⟨nd, rfl⟩⟩; (try first | exact ⟨rfl, _, World.drewN_drewN _ _ _⟩ | exact ⟨rfl, _, Eq.trans (World.drewN_drewN _ _ _) (congrArg (World.drewN _) (Nat.add_assoc _ _ _))⟩)) | (go_at_call 56; (with_reducible refine (spec_l1In.calls j1 0 m true _ B1.out).mono ?_); rintro e w' ⟨rfl, ⟨nd, rfl⟩⟩; (try first | exact ⟨rfl, _, World.drewN_drewN _ _ _⟩ | exact ⟨rfl, _, Eq.trans (World.drewN_drewN _ _ _) (congrArg (World.drewN _) (Nat.add_assoc _ _ _))⟩)) | (go_at_call 56; (with_reducible refine (spec_l1In.calls j2 0 m false _ B2.out).mono ?_); rintro e w' ⟨rfl, ⟨nd, rfl⟩⟩; (try first | exact ⟨rfl, _, World.drewN_drewN _ _ _⟩ | exact ⟨rfl, _, Eq.trans (World.drewN_drewN _ _ _) (congrArg (World.drewN _) (Nat.add_assoc _ _ _))⟩))); try go_wp2_with (first | (go_at_call 56; (with_reducible refine (spec_l1In.calls i 0 m true _ B0.out).mono ?_); rintro e w' ⟨rfl, ⟨nd, rfl⟩⟩; (try first | exact ⟨rfl, _, World.drewN_drewN _ _ _⟩ | exact ⟨rfl, _, Eq.trans (World.drewN_drewN _ _ _) (congrArg (World.drewN _) (Nat.add_assoc _ _ _))⟩)) | (go_at_call 56; (with_reducible refine (spec_l1In.calls j1 0 m true _ B1.out).mono ?_); rintro e w' ⟨rfl, ⟨nd, rfl⟩⟩; (try first | exact ⟨rfl, _, World.drewN_drewN _ _ _⟩ | exact ⟨rfl, _, Eq.trans (World.drewN_drewN _ _ _) (congrArg (World.drewN _) (Nat.add_assoc _ _ _))⟩)) | (go_at_call 56; (with_reducible refine (spec_l1In.calls j2 0 m false _ B2.out).mono ?_); rintro e w' ⟨rfl, ⟨nd, rfl⟩⟩; (try first | exact ⟨rfl, _, World.drewN_drewN _ _ _⟩ | exact ⟨rfl, _, Eq.trans (World.drewN_drewN _ _ _) (congrArg (World.drewN _) (Nat.add_assoc _ _ _))⟩))))
  go_ret
  exact ⟨by first | rfl | (simp; done) | (simp [*]; done), by repeat (first | exact Drawn0.refl _ | apply Drawn0.step)⟩
set_option maxHeartbeats 8000000 in
set_option maxRecDepth 100000 in
theorem spec_fgTo.wl1100 (s : ByteArray) (i j1 j2 m : Int) (w : World) (hm : wrap64 ((s.size : Int) - 1) = m) (A0 : spec_l1In.f i 0 m = some true) (p0 : 0 ≤ i) (q0 : i < (s.size : Int)) (e46 : (bt s i == 46) = false) (e108 : (bt s i == 108) = true) (h0 : wrap64 (i + -1) = j1) (h1 : wrap64 (i + -2) = j2) (h2 : wrap64 (i - 1) = j1) (h3 : wrap64 (i - 2) = j2) (A1 : spec_l1In.f j1 0 m = some true) (p1 : 0 ≤ j1) (q1 : j1 < (s.size : Int)) (ea : (bt s j1 == 46) = false) (A2 : spec_l1In.f j2 0 m = some true) (p2 : 0 ≤ j2) (q2 : j2 < (s.size : Int)) (eb : (bt s j2 == 46) = false) :
    Calls Tryd.prog 58 #[.string s, .int .i64 i] w fun e w' => e = .returned (.int .i64 (-1)) ∧ Drawn0 w w' := by
  have hmw : IntKind.i64.wrap ((s.size : Int) - 1) = m := (i64_w _).trans hm
  have B0 := Aside0.mk A0
  clear A0
  have x0 := bt_at s i
  replace p0 := eq_true p0
  replace q0 := eq_true q0
  have n46 : (bt s i != 46) = true := by unfold bne; rw [e46]; rfl
  have n108 : (bt s i != 108) = false := by unfold bne; rw [e108]; rfl
  have h0w : IntKind.i64.wrap (i + -1) = j1 := (i64_w _).trans h0
  have h1w : IntKind.i64.wrap (i + -2) = j2 := (i64_w _).trans h1
  have h2w : IntKind.i64.wrap (i - 1) = j1 := (i64_w _).trans h2
  have h3w : IntKind.i64.wrap (i - 2) = j2 := (i64_w _).trans h3
  have B1 := Aside0.mk A1
  clear A1
  have x1 := bt_at s j1
  replace p1 := eq_true p1
  replace q1 := eq_true q1
  have na : (bt s j1 != 46) = true := by unfold bne; rw [ea]; rfl
  have B2 := Aside0.mk A2
  clear A2
  have x2 := bt_at s j2
  replace p2 := eq_true p2
  replace q2 := eq_true q2
  have nb : (bt s j2 != 46) = true := by unfold bne; rw [eb]; rfl
  go_enter Tryd.func58, Tryd.ntmps58
  go_wp2_with (first | (go_at_call 56; (with_reducible refine (spec_l1In.calls i 0 m true _ B0.out).mono ?_); rintro e w' ⟨rfl, ⟨nd, rfl⟩⟩; (try first | exact ⟨rfl, _, World.drewN_drewN _ _ _⟩ | exact ⟨rfl, _, Eq.trans (World.drewN_drewN _ _ _) (congrArg (World.drewN _) (Nat.add_assoc _ _ _))⟩)) | (go_at_call 56; (with_reducible refine (spec_l1In.calls j1 0 m true _ B1.out).mono ?_); rintro e w' ⟨rfl, ⟨nd, rfl⟩⟩; (try first | exact ⟨rfl, _, World.drewN_drewN _ _ _⟩ | exact ⟨rfl, _, Eq.trans (World.drewN_drewN _ _ _) (congrArg (World.drewN _) (Nat.add_assoc _ _ _))⟩)) | (go_at_call 56; (with_reducible refine (spec_l1In.calls j2 0 m true _ B2.out).mono ?_); rintro e w' ⟨rfl, ⟨nd, rfl⟩⟩; (try first | exact ⟨rfl, _, World.drewN_drewN _ _ _⟩ | exact ⟨rfl, _, Eq.trans (World.drewN_drewN _ _ _) (congrArg (World.drewN _) (Nat.add_assoc _ _ _))⟩)))
  repeat (go_quiet (first | (go_at_call 56; (with_reducible refine (spec_l1In.calls i 0 m true _ B0.out).mono ?_); rintro e w' ⟨rfl, ⟨nd, rfl⟩⟩; (try first | exact ⟨rfl, _, World.drewN_drewN _ _ _⟩ | exact ⟨rfl, _, Eq.trans (World.drewN_drewN _ _ _) (congrArg (World.drewN _) (Nat.add_assoc _ _ _))⟩)) | (go_at_call 56; (with_reducible refine (spec_l1In.calls j1 0 m true _ B1.out).mono ?_); rintro e w' ⟨rfl, ⟨nd, rfl⟩⟩; (try first | exact ⟨rfl, _, World.drewN_drewN _ _ _⟩ | exact ⟨rfl, _, Eq.trans (World.drewN_drewN _ _ _) (congrArg (World.drewN _) (Nat.add_assoc _ _ _))⟩)) | (go_at_call 56; (with_reducible refine (spec_l1In.calls j2 0 m true _ B2.out).mono ?_); rintro e w' ⟨rfl, ⟨nd, rfl⟩⟩; (try first | exact ⟨rfl, _, World.drewN_drewN _ _ _⟩ | exact ⟨rfl, _, Eq.trans (World.drewN_drewN _ _ _) (congrArg (World.drewN _) (Nat.add_assoc _ _ _))⟩))); try go_wp2_with (first | (go_at_call 56; (with_reducible refine (spec_l1In.calls i 0 m true _ B0.out).mono ?_); rintro e w' ⟨rfl, ⟨nd, rfl⟩⟩; (try first | exact ⟨rfl, _, World.drewN_drewN _ _ _⟩ | exact ⟨rfl, _, Eq.trans (World.drewN_drewN _ _ _) (congrArg (World.drewN _) (Nat.add_assoc _ _ _))⟩)) | (go_at_call 56; (with_reducible refine (spec_l1In.calls j1 0 m true _ B1.out).mono ?_); rintro e w' ⟨rfl, ⟨nd, rfl⟩⟩; (try first | exact ⟨rfl, _, World.drewN_drewN _ _ _⟩ | exact ⟨rfl, _, Eq.trans (World.drewN_drewN _ _ _) (congrArg (World.drewN _) (Nat.add_assoc _ _ _))⟩)) | (go_at_call 56; (with_reducible refine (spec_l1In.calls j2 0 m true _ B2.out).mono ?_); rintro e w' ⟨rfl, ⟨nd, rfl⟩⟩; (try first | exact ⟨rfl, _, World.drewN_drewN _ _ _⟩ | exact ⟨rfl, _, Eq.trans (World.drewN_drewN _ _ _) (congrArg (World.drewN _) (Nat.add_assoc _ _ _))⟩))))
  go_ret
  exact ⟨by first | rfl | (simp; done) | (simp [*]; done), by repeat (first | exact Drawn0.refl _ | apply Drawn0.step)⟩
set_option maxHeartbeats 8000000 in
set_option maxRecDepth 100000 in
theorem spec_fgTo.wl1110 (s : ByteArray) (i j1 j2 m : Int) (w : World) (hm : wrap64 ((s.size : Int) - 1) = m) (A0 : spec_l1In.f i 0 m = some true) (p0 : 0 ≤ i) (q0 : i < (s.size : Int)) (e46 : (bt s i == 46) = false) (e108 : (bt s i == 108) = true) (h0 : wrap64 (i + -1) = j1) (h1 : wrap64 (i + -2) = j2) (h2 : wrap64 (i - 1) = j1) (h3 : wrap64 (i - 2) = j2) (A1 : spec_l1In.f j1 0 m = some true) (p1 : 0 ≤ j1) (q1 : j1 < (s.size : Int)) (ea : (bt s j1 == 46) = false) (A2 : spec_l1In.f j2 0 m = some true) (p2 : 0 ≤ j2) (q2 : j2 < (s.size : Int)) (eb : (bt s j2 == 46) = true) (ec : (bt s j1 == bt s i) = true) :
    Calls Tryd.prog 58 #[.string s, .int .i64 i] w fun e w' => e = .returned (.int .i64 (-1)) ∧ Drawn0 w w' := by
  have hmw : IntKind.i64.wrap ((s.size : Int) - 1) = m := (i64_w _).trans hm
  have B0 := Aside0.mk A0
  clear A0
  have x0 := bt_at s i
  replace p0 := eq_true p0
  replace q0 := eq_true q0
  have n46 : (bt s i != 46) = true := by unfold bne; rw [e46]; rfl
  have n108 : (bt s i != 108) = false := by unfold bne; rw [e108]; rfl
  have h0w : IntKind.i64.wrap (i + -1) = j1 := (i64_w _).trans h0
  have h1w : IntKind.i64.wrap (i + -2) = j2 := (i64_w _).trans h1
  have h2w : IntKind.i64.wrap (i - 1) = j1 := (i64_w _).trans h2
  have h3w : IntKind.i64.wrap (i - 2) = j2 := (i64_w _).trans h3
  have B1 := Aside0.mk A1
  clear A1
  have x1 := bt_at s j1
  replace p1 := eq_true p1
  replace q1 := eq_true q1
  have na : (bt s j1 != 46) = true := by unfold bne; rw [ea]; rfl
  have B2 := Aside0.mk A2
  clear A2
  have x2 := bt_at s j2
  replace p2 := eq_true p2
  replace q2 := eq_true q2
  have nb : (bt s j2 != 46) = false := by unfold bne; rw [eb]; rfl
  have nc : (bt s j1 != bt s i) = false := by unfold bne; rw [ec]; rfl
  go_enter Tryd.func58, Tryd.ntmps58
  go_wp2_with (first | (go_at_call 56; (with_reducible refine (spec_l1In.calls i 0 m true _ B0.out).mono ?_); rintro e w' ⟨rfl, ⟨nd, rfl⟩⟩; (try first | exact ⟨rfl, _, World.drewN_drewN _ _ _⟩ | exact ⟨rfl, _, Eq.trans (World.drewN_drewN _ _ _) (congrArg (World.drewN _) (Nat.add_assoc _ _ _))⟩)) | (go_at_call 56; (with_reducible refine (spec_l1In.calls j1 0 m true _ B1.out).mono ?_); rintro e w' ⟨rfl, ⟨nd, rfl⟩⟩; (try first | exact ⟨rfl, _, World.drewN_drewN _ _ _⟩ | exact ⟨rfl, _, Eq.trans (World.drewN_drewN _ _ _) (congrArg (World.drewN _) (Nat.add_assoc _ _ _))⟩)) | (go_at_call 56; (with_reducible refine (spec_l1In.calls j2 0 m true _ B2.out).mono ?_); rintro e w' ⟨rfl, ⟨nd, rfl⟩⟩; (try first | exact ⟨rfl, _, World.drewN_drewN _ _ _⟩ | exact ⟨rfl, _, Eq.trans (World.drewN_drewN _ _ _) (congrArg (World.drewN _) (Nat.add_assoc _ _ _))⟩)))
  repeat (go_quiet (first | (go_at_call 56; (with_reducible refine (spec_l1In.calls i 0 m true _ B0.out).mono ?_); rintro e w' ⟨rfl, ⟨nd, rfl⟩⟩; (try first | exact ⟨rfl, _, World.drewN_drewN _ _ _⟩ | exact ⟨rfl, _, Eq.trans (World.drewN_drewN _ _ _) (congrArg (World.drewN _) (Nat.add_assoc _ _ _))⟩)) | (go_at_call 56; (with_reducible refine (spec_l1In.calls j1 0 m true _ B1.out).mono ?_); rintro e w' ⟨rfl, ⟨nd, rfl⟩⟩; (try first | exact ⟨rfl, _, World.drewN_drewN _ _ _⟩ | exact ⟨rfl, _, Eq.trans (World.drewN_drewN _ _ _) (congrArg (World.drewN _) (Nat.add_assoc _ _ _))⟩)) | (go_at_call 56; (with_reducible refine (spec_l1In.calls j2 0 m true _ B2.out).mono ?_); rintro e w' ⟨rfl, ⟨nd, rfl⟩⟩; (try first | exact ⟨rfl, _, World.drewN_drewN _ _ _⟩ | exact ⟨rfl, _, Eq.trans (World.drewN_drewN _ _ _) (congrArg (World.drewN _) (Nat.add_assoc _ _ _))⟩))); try go_wp2_with (first | (go_at_call 56; (with_reducible refine (spec_l1In.calls i 0 m true _ B0.out).mono ?_); rintro e w' ⟨rfl, ⟨nd, rfl⟩⟩; (try first | exact ⟨rfl, _, World.drewN_drewN _ _ _⟩ | exact ⟨rfl, _, Eq.trans (World.drewN_drewN _ _ _) (congrArg (World.drewN _) (Nat.add_assoc _ _ _))⟩)) | (go_at_call 56; (with_reducible refine (spec_l1In.calls j1 0 m true _ B1.out).mono ?_); rintro e w' ⟨rfl, ⟨nd, rfl⟩⟩; (try first | exact ⟨rfl, _, World.drewN_drewN _ _ _⟩ | exact ⟨rfl, _, Eq.trans (World.drewN_drewN _ _ _) (congrArg (World.drewN _) (Nat.add_assoc _ _ _))⟩)) | (go_at_call 56; (with_reducible refine (spec_l1In.calls j2 0 m true _ B2.out).mono ?_); rintro e w' ⟨rfl, ⟨nd, rfl⟩⟩; (try first | exact ⟨rfl, _, World.drewN_drewN _ _ _⟩ | exact ⟨rfl, _, Eq.trans (World.drewN_drewN _ _ _) (congrArg (World.drewN _) (Nat.add_assoc _ _ _))⟩))))
  go_ret
  exact ⟨by first | rfl | (simp; done) | (simp [*]; done), by repeat (first | exact Drawn0.refl _ | apply Drawn0.step)⟩
set_option maxHeartbeats 8000000 in
set_option maxRecDepth 100000 in
theorem spec_fgTo.wl1111 (s : ByteArray) (i j1 j2 m : Int) (w : World) (hm : wrap64 ((s.size : Int) - 1) = m) (A0 : spec_l1In.f i 0 m = some true) (p0 : 0 ≤ i) (q0 : i < (s.size : Int)) (e46 : (bt s i == 46) = false) (e108 : (bt s i == 108) = true) (h0 : wrap64 (i + -1) = j1) (h1 : wrap64 (i + -2) = j2) (h2 : wrap64 (i - 1) = j1) (h3 : wrap64 (i - 2) = j2) (A1 : spec_l1In.f j1 0 m = some true) (p1 : 0 ≤ j1) (q1 : j1 < (s.size : Int)) (ea : (bt s j1 == 46) = false) (A2 : spec_l1In.f j2 0 m = some true) (p2 : 0 ≤ j2) (q2 : j2 < (s.size : Int)) (eb : (bt s j2 == 46) = true) (ec : (bt s j1 == bt s i) = false) :
    Calls Tryd.prog 58 #[.string s, .int .i64 i] w fun e w' => e = .returned (.int .i64 j2) ∧ Drawn0 w w' := by
  have hmw : IntKind.i64.wrap ((s.size : Int) - 1) = m := (i64_w _).trans hm
  have B0 := Aside0.mk A0
  clear A0
  have x0 := bt_at s i
  replace p0 := eq_true p0
  replace q0 := eq_true q0
  have n46 : (bt s i != 46) = true := by unfold bne; rw [e46]; rfl
  have n108 : (bt s i != 108) = false := by unfold bne; rw [e108]; rfl
  have h0w : IntKind.i64.wrap (i + -1) = j1 := (i64_w _).trans h0
  have h1w : IntKind.i64.wrap (i + -2) = j2 := (i64_w _).trans h1
  have h2w : IntKind.i64.wrap (i - 1) = j1 := (i64_w _).trans h2
  have h3w : IntKind.i64.wrap (i - 2) = j2 := (i64_w _).trans h3
  have B1 := Aside0.mk A1
  clear A1
  have x1 := bt_at s j1
  replace p1 := eq_true p1
  replace q1 := eq_true q1
  have na : (bt s j1 != 46) = true := by unfold bne; rw [ea]; rfl
  have B2 := Aside0.mk A2
  clear A2
  have x2 := bt_at s j2
  replace p2 := eq_true p2
  replace q2 := eq_true q2
  have nb : (bt s j2 != 46) = false := by unfold bne; rw [eb]; rfl
  have nc : (bt s j1 != bt s i) = true := by unfold bne; rw [ec]; rfl
  go_enter Tryd.func58, Tryd.ntmps58
  go_wp2_with (first | (go_at_call 56; (with_reducible refine (spec_l1In.calls i 0 m true _ B0.out).mono ?_); rintro e w' ⟨rfl, ⟨nd, rfl⟩⟩; (try first | exact ⟨rfl, _, World.drewN_drewN _ _ _⟩ | exact ⟨rfl, _, Eq.trans (World.drewN_drewN _ _ _) (congrArg (World.drewN _) (Nat.add_assoc _ _ _))⟩)) | (go_at_call 56; (with_reducible refine (spec_l1In.calls j1 0 m true _ B1.out).mono ?_); rintro e w' ⟨rfl, ⟨nd, rfl⟩⟩; (try first | exact ⟨rfl, _, World.drewN_drewN _ _ _⟩ | exact ⟨rfl, _, Eq.trans (World.drewN_drewN _ _ _) (congrArg (World.drewN _) (Nat.add_assoc _ _ _))⟩)) | (go_at_call 56; (with_reducible refine (spec_l1In.calls j2 0 m true _ B2.out).mono ?_); rintro e w' ⟨rfl, ⟨nd, rfl⟩⟩; (try first | exact ⟨rfl, _, World.drewN_drewN _ _ _⟩ | exact ⟨rfl, _, Eq.trans (World.drewN_drewN _ _ _) (congrArg (World.drewN _) (Nat.add_assoc _ _ _))⟩)))
  repeat (go_quiet (first | (go_at_call 56; (with_reducible refine (spec_l1In.calls i 0 m true _ B0.out).mono ?_); rintro e w' ⟨rfl, ⟨nd, rfl⟩⟩; (try first | exact ⟨rfl, _, World.drewN_drewN _ _ _⟩ | exact ⟨rfl, _, Eq.trans (World.drewN_drewN _ _ _) (congrArg (World.drewN _) (Nat.add_assoc _ _ _))⟩)) | (go_at_call 56; (with_reducible refine (spec_l1In.calls j1 0 m true _ B1.out).mono ?_); rintro e w' ⟨rfl, ⟨nd, rfl⟩⟩; (try first | exact ⟨rfl, _, World.drewN_drewN _ _ _⟩ | exact ⟨rfl, _, Eq.trans (World.drewN_drewN _ _ _) (congrArg (World.drewN _) (Nat.add_assoc _ _ _))⟩)) | (go_at_call 56; (with_reducible refine (spec_l1In.calls j2 0 m true _ B2.out).mono ?_); rintro e w' ⟨rfl, ⟨nd, rfl⟩⟩; (try first | exact ⟨rfl, _, World.drewN_drewN _ _ _⟩ | exact ⟨rfl, _, Eq.trans (World.drewN_drewN _ _ _) (congrArg (World.drewN _) (Nat.add_assoc _ _ _))⟩))); try go_wp2_with (first | (go_at_call 56; (with_reducible refine (spec_l1In.calls i 0 m true _ B0.out).mono ?_); rintro e w' ⟨rfl, ⟨nd, rfl⟩⟩; (try first | exact ⟨rfl, _, World.drewN_drewN _ _ _⟩ | exact ⟨rfl, _, Eq.trans (World.drewN_drewN _ _ _) (congrArg (World.drewN _) (Nat.add_assoc _ _ _))⟩)) | (go_at_call 56; (with_reducible refine (spec_l1In.calls j1 0 m true _ B1.out).mono ?_); rintro e w' ⟨rfl, ⟨nd, rfl⟩⟩; (try first | exact ⟨rfl, _, World.drewN_drewN _ _ _⟩ | exact ⟨rfl, _, Eq.trans (World.drewN_drewN _ _ _) (congrArg (World.drewN _) (Nat.add_assoc _ _ _))⟩)) | (go_at_call 56; (with_reducible refine (spec_l1In.calls j2 0 m true _ B2.out).mono ?_); rintro e w' ⟨rfl, ⟨nd, rfl⟩⟩; (try first | exact ⟨rfl, _, World.drewN_drewN _ _ _⟩ | exact ⟨rfl, _, Eq.trans (World.drewN_drewN _ _ _) (congrArg (World.drewN _) (Nat.add_assoc _ _ _))⟩))))
  go_ret
  exact ⟨by first | rfl | (simp; done) | (simp [*]; done), by repeat (first | exact Drawn0.refl _ | apply Drawn0.step)⟩
set_option maxHeartbeats 8000000 in
set_option maxRecDepth 100000 in
theorem spec_fgTo.wl0000 (s : ByteArray) (i j1 j2 m : Int) (w : World) (hm : wrap64 ((s.size : Int) - 1) = m) (A0 : spec_l1In.f i 0 m = some true) (p0 : 0 ≤ i) (q0 : i < (s.size : Int)) (e46 : (bt s i == 46) = false) (e108 : (bt s i == 108) = true) (h0 : wrap64 (i + -1) = j1) (h1 : wrap64 (i + -2) = j2) (h2 : wrap64 (i - 1) = j1) (h3 : wrap64 (i - 2) = j2) (A1 : spec_l1In.f j1 0 m = some false) (A2 : spec_l1In.f j2 0 m = some false) :
    Calls Tryd.prog 58 #[.string s, .int .i64 i] w fun e w' => e = .returned (.int .i64 (-1)) ∧ Drawn0 w w' := by
  have hmw : IntKind.i64.wrap ((s.size : Int) - 1) = m := (i64_w _).trans hm
  have B0 := Aside0.mk A0
  clear A0
  have x0 := bt_at s i
  replace p0 := eq_true p0
  replace q0 := eq_true q0
  have n46 : (bt s i != 46) = true := by unfold bne; rw [e46]; rfl
  have n108 : (bt s i != 108) = false := by unfold bne; rw [e108]; rfl
  have h0w : IntKind.i64.wrap (i + -1) = j1 := (i64_w _).trans h0
  have h1w : IntKind.i64.wrap (i + -2) = j2 := (i64_w _).trans h1
  have h2w : IntKind.i64.wrap (i - 1) = j1 := (i64_w _).trans h2
  have h3w : IntKind.i64.wrap (i - 2) = j2 := (i64_w _).trans h3
  have B1 := Aside0.mk A1
  clear A1
  have B2 := Aside0.mk A2
  clear A2
  go_enter Tryd.func58, Tryd.ntmps58
  go_wp2_with (first | (go_at_call 56; (with_reducible refine (spec_l1In.calls i 0 m true _ B0.out).mono ?_); rintro e w' ⟨rfl, ⟨nd, rfl⟩⟩; (try first | exact ⟨rfl, _, World.drewN_drewN _ _ _⟩ | exact ⟨rfl, _, Eq.trans (World.drewN_drewN _ _ _) (congrArg (World.drewN _) (Nat.add_assoc _ _ _))⟩)) | (go_at_call 56; (with_reducible refine (spec_l1In.calls j1 0 m false _ B1.out).mono ?_); rintro e w' ⟨rfl, ⟨nd, rfl⟩⟩; (try first | exact ⟨rfl, _, World.drewN_drewN _ _ _⟩ | exact ⟨rfl, _, Eq.trans (World.drewN_drewN _ _ _) (congrArg (World.drewN _) (Nat.add_assoc _ _ _))⟩)) | (go_at_call 56; (with_reducible refine (spec_l1In.calls j2 0 m false _ B2.out).mono ?_); rintro e w' ⟨rfl, ⟨nd, rfl⟩⟩; (try first | exact ⟨rfl, _, World.drewN_drewN _ _ _⟩ | exact ⟨rfl, _, Eq.trans (World.drewN_drewN _ _ _) (congrArg (World.drewN _) (Nat.add_assoc _ _ _))⟩)))
  repeat (go_quiet (first | (go_at_call 56; (with_reducible refine (spec_l1In.calls i 0 m true _ B0.out).mono ?_); rintro e w' ⟨rfl, ⟨nd, rfl⟩⟩; (try first | exact ⟨rfl, _, World.drewN_drewN _ _ _⟩ | exact ⟨rfl, _, Eq.trans (World.drewN_drewN _ _ _) (congrArg (World.drewN _) (Nat.add_assoc _ _ _))⟩)) | (go_at_call 56; (with_reducible refine (spec_l1In.calls j1 0 m false _ B1.out).mono ?_); rintro e w' ⟨rfl, ⟨nd, rfl⟩⟩; (try first | exact ⟨rfl, _, World.drewN_drewN _ _ _⟩ | exact ⟨rfl, _, Eq.trans (World.drewN_drewN _ _ _) (congrArg (World.drewN _) (Nat.add_assoc _ _ _))⟩)) | (go_at_call 56; (with_reducible refine (spec_l1In.calls j2 0 m false _ B2.out).mono ?_); rintro e w' ⟨rfl, ⟨nd, rfl⟩⟩; (try first | exact ⟨rfl, _, World.drewN_drewN _ _ _⟩ | exact ⟨rfl, _, Eq.trans (World.drewN_drewN _ _ _) (congrArg (World.drewN _) (Nat.add_assoc _ _ _))⟩))); try go_wp2_with (first | (go_at_call 56; (with_reducible refine (spec_l1In.calls i 0 m true _ B0.out).mono ?_); rintro e w' ⟨rfl, ⟨nd, rfl⟩⟩; (try first | exact ⟨rfl, _, World.drewN_drewN _ _ _⟩ | exact ⟨rfl, _, Eq.trans (World.drewN_drewN _ _ _) (congrArg (World.drewN _) (Nat.add_assoc _ _ _))⟩)) | (go_at_call 56; (with_reducible refine (spec_l1In.calls j1 0 m false _ B1.out).mono ?_); rintro e w' ⟨rfl, ⟨nd, rfl⟩⟩; (try first | exact ⟨rfl, _, World.drewN_drewN _ _ _⟩ | exact ⟨rfl, _, Eq.trans (World.drewN_drewN _ _ _) (congrArg (World.drewN _) (Nat.add_assoc _ _ _))⟩)) | (go_at_call 56; (with_reducible refine (spec_l1In.calls j2 0 m false _ B2.out).mono ?_); rintro e w' ⟨rfl, ⟨nd, rfl⟩⟩; (try first | exact ⟨rfl, _, World.drewN_drewN _ _ _⟩ | exact ⟨rfl, _, Eq.trans (World.drewN_drewN _ _ _) (congrArg (World.drewN _) (Nat.add_assoc _ _ _))⟩))))
  go_ret
  exact ⟨by first | rfl | (simp; done) | (simp [*]; done), by repeat (first | exact Drawn0.refl _ | apply Drawn0.step)⟩
def spec_fgTo.f (a0 : ByteArray) (a1 : Int) : Option (Int) := if a0.size ≤ 1000 then (some (frogTo a0 a1)) else none
theorem spec_fgTo.in1 {x m : Int} (h : 0 ≤ x ∧ x ≤ m) : spec_l1In.f x 0 m = some true := by
  unfold spec_l1In.f; rw [if_pos (by omega)]; congr 1; exact decide_eq_true h.2
theorem spec_fgTo.in0 {x m : Int} (h : ¬ (0 ≤ x ∧ x ≤ m)) : spec_l1In.f x 0 m = some false := by
  unfold spec_l1In.f
  by_cases c : x ≥ 0
  · rw [if_pos c]; congr 1; exact decide_eq_false (by omega)
  · rw [if_neg c]
theorem spec_fgTo.bq {x y : Int} (h : x = y) : (x == y) = true := beq_iff_eq.mpr h
theorem spec_fgTo.bn {x y : Int} (h : ¬ x = y) : (x == y) = false := beq_eq_false_iff_ne.mpr h
theorem spec_fgTo.wr {x y : Int} (h : x = y) (h0 : -9223372036854775808 ≤ x) (h1 : x < 9223372036854775808) : wrap64 x = y := by unfold wrap64; omega
theorem spec_fgTo.calls (a0 : ByteArray) (a1 : Int) (r : Int) (w : World) (h : spec_fgTo.f a0 a1 = some r) :
    Calls Tryd.prog 58 #[.string a0, .int .i64 a1] w fun e w' => e = .returned (.int .i64 r) ∧ Drawn0 w w' := by
  unfold spec_fgTo.f at h
  by_cases hd : a0.size ≤ 1000
  case neg => rw [if_neg hd] at h; cases h
  rw [if_pos hd] at h
  have hr := Option.some.inj h
  clear h
  subst hr
  have hm : wrap64 ((a0.size : Int) - 1) = (a0.size : Int) - 1 := by unfold wrap64; omega
  by_cases h0 : 0 ≤ a1 ∧ a1 < (a0.size : Int)
  case neg =>
    have e : frogTo a0 a1 = -1 := by unfold frogTo; rw [if_neg (fun c => h0 c.1)]
    rw [e]
    exact spec_fgTo.wout a0 a1 0 0 _ w hm (spec_fgTo.in0 (by omega))
  have A0 : spec_l1In.f a1 0 ((a0.size : Int) - 1) = some true := spec_fgTo.in1 (by omega)
  by_cases h46 : bt a0 a1 = 46
  case pos =>
    have e : frogTo a0 a1 = -1 := by unfold frogTo; rw [if_neg (fun c => c.2 h46)]
    rw [e]
    exact spec_fgTo.wdot a0 a1 0 0 _ w hm A0 h0.1 h0.2 (spec_fgTo.bq h46)
  by_cases h108 : bt a0 a1 = 108
  case pos =>
    have e : frogTo a0 a1 = if (0 ≤ a1 + -1 ∧ a1 + -1 < (a0.size : Int)) ∧ bt a0 (a1 + -1) = 46 then a1 + -1 else if ((0 ≤ a1 + -2 ∧ a1 + -2 < (a0.size : Int)) ∧ bt a0 (a1 + -2) = 46) ∧ ¬ bt a0 (a1 + -1) = bt a0 a1 then a1 + -2 else -1 := by
      unfold frogTo; rw [if_pos ⟨h0, h46⟩]; simp only [if_pos h108]; rfl
    rw [e]
    by_cases c1 : 0 ≤ a1 + -1 ∧ a1 + -1 < (a0.size : Int)
    · by_cases c2 : bt a0 (a1 + -1) = 46
      · rw [if_pos ⟨c1, c2⟩]
        exact spec_fgTo.wl1 a0 a1 (a1 + -1) (a1 + -2) _ w hm A0 h0.1 h0.2 (spec_fgTo.bn h46) (spec_fgTo.bq h108) (spec_fgTo.wr (by omega) (by omega) (by omega)) (spec_fgTo.wr (by omega) (by omega) (by omega)) (spec_fgTo.wr (by omega) (by omega) (by omega)) (spec_fgTo.wr (by omega) (by omega) (by omega)) (spec_fgTo.in1 (by omega)) c1.1 c1.2 (spec_fgTo.bq c2)
      · rw [if_neg (fun c => c2 c.2)]
        by_cases c3 : 0 ≤ a1 + -2 ∧ a1 + -2 < (a0.size : Int)
        · by_cases c4 : bt a0 (a1 + -2) = 46
          · by_cases c5 : bt a0 (a1 + -1) = bt a0 a1
            · rw [if_neg (fun c => c.2 c5)]
              exact spec_fgTo.wl1110 a0 a1 (a1 + -1) (a1 + -2) _ w hm A0 h0.1 h0.2 (spec_fgTo.bn h46) (spec_fgTo.bq h108) (spec_fgTo.wr (by omega) (by omega) (by omega)) (spec_fgTo.wr (by omega) (by omega) (by omega)) (spec_fgTo.wr (by omega) (by omega) (by omega)) (spec_fgTo.wr (by omega) (by omega) (by omega)) (spec_fgTo.in1 (by omega)) c1.1 c1.2 (spec_fgTo.bn c2) (spec_fgTo.in1 (by omega)) c3.1 c3.2 (spec_fgTo.bq c4) (spec_fgTo.bq c5)
            · rw [if_pos ⟨⟨c3, c4⟩, c5⟩]
              exact spec_fgTo.wl1111 a0 a1 (a1 + -1) (a1 + -2) _ w hm A0 h0.1 h0.2 (spec_fgTo.bn h46) (spec_fgTo.bq h108) (spec_fgTo.wr (by omega) (by omega) (by omega)) (spec_fgTo.wr (by omega) (by omega) (by omega)) (spec_fgTo.wr (by omega) (by omega) (by omega)) (spec_fgTo.wr (by omega) (by omega) (by omega)) (spec_fgTo.in1 (by omega)) c1.1 c1.2 (spec_fgTo.bn c2) (spec_fgTo.in1 (by omega)) c3.1 c3.2 (spec_fgTo.bq c4) (spec_fgTo.bn c5)
          · rw [if_neg (fun c => c4 c.1.2)]
            exact spec_fgTo.wl1100 a0 a1 (a1 + -1) (a1 + -2) _ w hm A0 h0.1 h0.2 (spec_fgTo.bn h46) (spec_fgTo.bq h108) (spec_fgTo.wr (by omega) (by omega) (by omega)) (spec_fgTo.wr (by omega) (by omega) (by omega)) (spec_fgTo.wr (by omega) (by omega) (by omega)) (spec_fgTo.wr (by omega) (by omega) (by omega)) (spec_fgTo.in1 (by omega)) c1.1 c1.2 (spec_fgTo.bn c2) (spec_fgTo.in1 (by omega)) c3.1 c3.2 (spec_fgTo.bn c4)
        · rw [if_neg (fun c => c3 c.1.1)]
          exact spec_fgTo.wl1000 a0 a1 (a1 + -1) (a1 + -2) _ w hm A0 h0.1 h0.2 (spec_fgTo.bn h46) (spec_fgTo.bq h108) (spec_fgTo.wr (by omega) (by omega) (by omega)) (spec_fgTo.wr (by omega) (by omega) (by omega)) (spec_fgTo.wr (by omega) (by omega) (by omega)) (spec_fgTo.wr (by omega) (by omega) (by omega)) (spec_fgTo.in1 (by omega)) c1.1 c1.2 (spec_fgTo.bn c2) (spec_fgTo.in0 (by omega))
    · rw [if_neg (fun c => c1 c.1), if_neg (fun c => c1 (by omega))]
      exact spec_fgTo.wl0000 a0 a1 (a1 + -1) (a1 + -2) _ w hm A0 h0.1 h0.2 (spec_fgTo.bn h46) (spec_fgTo.bq h108) (spec_fgTo.wr (by omega) (by omega) (by omega)) (spec_fgTo.wr (by omega) (by omega) (by omega)) (spec_fgTo.wr (by omega) (by omega) (by omega)) (spec_fgTo.wr (by omega) (by omega) (by omega)) (spec_fgTo.in0 (by omega)) (spec_fgTo.in0 (by omega))
  case neg =>
    have e : frogTo a0 a1 = if (0 ≤ a1 + 1 ∧ a1 + 1 < (a0.size : Int)) ∧ bt a0 (a1 + 1) = 46 then a1 + 1 else if ((0 ≤ a1 + 2 ∧ a1 + 2 < (a0.size : Int)) ∧ bt a0 (a1 + 2) = 46) ∧ ¬ bt a0 (a1 + 1) = bt a0 a1 then a1 + 2 else -1 := by
      unfold frogTo; rw [if_pos ⟨h0, h46⟩]; simp only [if_neg h108]; rfl
    rw [e]
    by_cases c1 : 0 ≤ a1 + 1 ∧ a1 + 1 < (a0.size : Int)
    · by_cases c2 : bt a0 (a1 + 1) = 46
      · rw [if_pos ⟨c1, c2⟩]
        exact spec_fgTo.wr1 a0 a1 (a1 + 1) (a1 + 2) _ w hm A0 h0.1 h0.2 (spec_fgTo.bn h46) (spec_fgTo.bn h108) (spec_fgTo.wr (by omega) (by omega) (by omega)) (spec_fgTo.wr (by omega) (by omega) (by omega)) (spec_fgTo.in1 (by omega)) c1.1 c1.2 (spec_fgTo.bq c2)
      · rw [if_neg (fun c => c2 c.2)]
        by_cases c3 : 0 ≤ a1 + 2 ∧ a1 + 2 < (a0.size : Int)
        · by_cases c4 : bt a0 (a1 + 2) = 46
          · by_cases c5 : bt a0 (a1 + 1) = bt a0 a1
            · rw [if_neg (fun c => c.2 c5)]
              exact spec_fgTo.wr1110 a0 a1 (a1 + 1) (a1 + 2) _ w hm A0 h0.1 h0.2 (spec_fgTo.bn h46) (spec_fgTo.bn h108) (spec_fgTo.wr (by omega) (by omega) (by omega)) (spec_fgTo.wr (by omega) (by omega) (by omega)) (spec_fgTo.in1 (by omega)) c1.1 c1.2 (spec_fgTo.bn c2) (spec_fgTo.in1 (by omega)) c3.1 c3.2 (spec_fgTo.bq c4) (spec_fgTo.bq c5)
            · rw [if_pos ⟨⟨c3, c4⟩, c5⟩]
              exact spec_fgTo.wr1111 a0 a1 (a1 + 1) (a1 + 2) _ w hm A0 h0.1 h0.2 (spec_fgTo.bn h46) (spec_fgTo.bn h108) (spec_fgTo.wr (by omega) (by omega) (by omega)) (spec_fgTo.wr (by omega) (by omega) (by omega)) (spec_fgTo.in1 (by omega)) c1.1 c1.2 (spec_fgTo.bn c2) (spec_fgTo.in1 (by omega)) c3.1 c3.2 (spec_fgTo.bq c4) (spec_fgTo.bn c5)
          · rw [if_neg (fun c => c4 c.1.2)]
            exact spec_fgTo.wr1100 a0 a1 (a1 + 1) (a1 + 2) _ w hm A0 h0.1 h0.2 (spec_fgTo.bn h46) (spec_fgTo.bn h108) (spec_fgTo.wr (by omega) (by omega) (by omega)) (spec_fgTo.wr (by omega) (by omega) (by omega)) (spec_fgTo.in1 (by omega)) c1.1 c1.2 (spec_fgTo.bn c2) (spec_fgTo.in1 (by omega)) c3.1 c3.2 (spec_fgTo.bn c4)
        · rw [if_neg (fun c => c3 c.1.1)]
          exact spec_fgTo.wr1000 a0 a1 (a1 + 1) (a1 + 2) _ w hm A0 h0.1 h0.2 (spec_fgTo.bn h46) (spec_fgTo.bn h108) (spec_fgTo.wr (by omega) (by omega) (by omega)) (spec_fgTo.wr (by omega) (by omega) (by omega)) (spec_fgTo.in1 (by omega)) c1.1 c1.2 (spec_fgTo.bn c2) (spec_fgTo.in0 (by omega))
    · rw [if_neg (fun c => c1 c.1), if_neg (fun c => c1 (by omega))]
      exact spec_fgTo.wr0000 a0 a1 (a1 + 1) (a1 + 2) _ w hm A0 h0.1 h0.2 (spec_fgTo.bn h46) (spec_fgTo.bn h108) (spec_fgTo.wr (by omega) (by omega) (by omega)) (spec_fgTo.wr (by omega) (by omega) (by omega)) (spec_fgTo.in0 (by omega)) (spec_fgTo.in0 (by omega))

/-! ### spec_fgMoves: function 35 -/
--USES helper_iter
def spec_fgMoves.l0 : Nat → ByteArray → List Int → Nat → Option (List Int)
  | 0, _, _, _ => none
  | k + 1, s, acc, i => if i < s.size then ((spec_fgTo.f s (i : Int)).bind fun t => (if t ≥ 0 then (if acc.length < 1000 then (spec_fgMoves.l0 k s (acc ++ [(i : Int)]) (i + 1)) else (none)) else (spec_fgMoves.l0 k s acc (i + 1)))) else (some acc)
def spec_fgMoves.f (a0 : ByteArray) : Option (List Int) := if a0.size ≤ 1000 ∧ asciiB a0 = true then (spec_fgMoves.l0 (a0.size + 1) a0 [] 0) else none
theorem spec_fgMoves.kept {W w1 : World} {nd : Nat} {row : Option Nat} {g : Nat} {o : Obj} (hg : (W.drewN nd).grownBy w1 row) (h1 : g < W.heap.size) (h2 : ¬ row = some g) (h : W.heap[g]? = some o) : w1.heap[g]? = some o := by
  have h3 := hg.block g (by simpa using h1) (fun e => h2 e.symm)
  rw [h3]; simpa using h
theorem info_int : (Tryd.prog.info? 3).map (fun i => (i.zero, i.size, i.bytes)) = some (some (.int .i64 0), 1, 8) := by kernel_rfl
set_option maxHeartbeats 8000000 in
set_option maxRecDepth 100000 in
theorem spec_fgMoves.calls (a0 : ByteArray) (r : List Int) (w : World) (h : spec_fgMoves.f a0 = some r) :
    Calls Tryd.prog 35 #[.string a0] w fun e w' => ∃ v0_ : Value, e = .returned (v0_) ∧ Kd.R (Kd.int .i64) 3 w' w.heap.size (fun _ => True) v0_ r ∧ Below w.heap.size w w' := by
  unfold spec_fgMoves.f at h
  by_cases c : a0.size ≤ 1000 ∧ asciiB a0 = true
  case neg => rw [if_neg c] at h; cases h
  rw [if_pos c] at h
  have H' := Aside0.mk h
  have HC := Aside0.mk c
  clear h c
  obtain ⟨K, hK⟩ : ∃ K, K = a0.size + 1 := ⟨_, rfl⟩
  rw [← hK] at H'
  have HK := Aside0.mk hK
  clear hK
  go_enter Tryd.func35, Tryd.ntmps35
  go_wp2
  go_loopg [3] K (fun kq v3 w' => ∃ (acc : List Int) (pos : Nat), Aside0 (spec_fgMoves.l0 kq a0 acc pos = some r) ∧ Aside0 (kq ≤ K) ∧ Aside0 (Kd.R (Kd.int .i64) 3 w' w.heap.size (fun k => k ≠ w.heap.size) v3 acc) ∧ Aside0 (Below w.heap.size w w') ∧ Aside0 (w'.heap[w.heap.size]? = some (.stringIter a0 pos)))
  case atStart => exact ⟨[], 0, H', ⟨Nat.le_refl _⟩, ⟨Kd.R_nil _ _ _ _ _⟩, ⟨below_alloc (Below.refl _ _) _⟩, ⟨World.iter_heap w a0 0⟩⟩
  case round =>
    clear H'
    obtain ⟨acc, pos, HA, HK1, HO, HB, HI⟩ := hrel
    cases gk with
    | zero => exact absurd HA.out (by simp [spec_fgMoves.l0])
    | succ k1 =>
      have H := HA.out
      clear HA
      simp only [spec_fgMoves.l0] at H
      by_cases c2 : pos < a0.size
      · rw [if_pos c2] at H
        obtain ⟨t, ht, H⟩ := Option.bind_eq_some_iff.mp H
        replace H : (if t ≥ 0 then (if acc.length < 1000 then (spec_fgMoves.l0 k1 a0 (acc ++ [(pos : Int)]) (pos + 1)) else (none)) else (spec_fgMoves.l0 k1 a0 acc (pos + 1))) = some r := H
        have A5 := Aside0.mk ht
        clear ht
        obtain ⟨W2, hnx0, hI2, hoth, hsz, hos, htp, hout⟩ := iter_next (P := Tryd.prog) wr w.heap.size a0 pos HI.out c2 (asciiB_at HC.out.2 pos c2)
        have hB2 : Below w.heap.size w W2 := by
          have hb := HB.out
          exact ⟨hos.trans hb.os, htp.trans hb.tape, hout.trans hb.output, by rw [hsz]; exact hb.size, fun k hk => (hoth k (by omega)).trans (hb.block k hk)⟩
        have hO2 := Kd.R_move HO.out (fun k hk => hoth k hk)
        have hg2 : w.heap.size < W2.heap.size := (Array.getElem?_eq_some_iff.1 hI2).1
        clear HI HO HB hoth hsz hos htp hout
        have hnx := fun ty => hnx0 ty
        clear hnx0
        have HO := Aside0.mk hO2
        have HB := Aside0.mk hB2
        have HI := Aside0.mk hI2
        have HG := Aside0.mk hg2
        clear hO2 hB2 hI2 hg2
        by_cases ct : t ≥ 0
        · rw [if_pos ct] at H
          by_cases cl : acc.length < 1000
          · rw [if_pos cl] at H
            have LM := Aside0.mk cl
            have H' := Aside0.mk H
            have ctb : decide (0 ≤ t) = true := decide_eq_true ct
            clear cl H ct
            go_wp2_with (first | (go_at_call 58; (with_reducible refine (spec_fgTo.calls a0 (pos : Int) t _ A5.out).mono ?_); rintro e w' ⟨rfl, ⟨nd, rfl⟩⟩) | (at_builtin; (refine Kd.R_append (Kd.int .i64) (w0 := w) w.heap.size rfl (.tmp 14) (.tmp 16) 34 3 (.int .i64 0) 8 rfl Tryd.underlying34 info_int rfl (by decide) (by omega) u3 acc (pos : Int) [.int .i64 (pos : Int)] (fun k => k ≠ w.heap.size) (fun _ => False) rfl rfl ?aP (fun _ hk => hk.elim) ?aF ?aO ?aB ?aS ?aL ?_; (case aP => exact rfl); (case aB => exact pw_below_drewN HB.out _); (case aF => exact (fun k hk e => by have h1 := HG.out; have h2 : W2.heap.size ≤ k := (by simpa using hk); omega)); (case aO => exact Kd.R_drewN HO.out _); (case aS => exact (by have h1 := HG.out; simp; omega)); (case aL => have := LM.out; omega); intro v105 w8 ho hb hg hat; have HOn := Aside0.mk ho; have HBn := Aside0.mk hb; have HIn := Aside0.mk (show w8.heap[w.heap.size]? = some (.stringIter a0 (pos + 1)) from spec_fgMoves.kept hg HG.out (fun e => HO.out.1 w.heap.size e rfl) HI.out); clear HB HO HI ho hb hg hat)))
            go_roundg k1
            case measure => have := HK1.out; omega
            case rel => exact ⟨acc ++ [(pos : Int)], pos + 1, H', ⟨by have := HK1.out; omega⟩, HOn, HBn, HIn⟩
          · rw [if_neg cl] at H
            cases H
        · rw [if_neg ct] at H
          have H' := Aside0.mk H
          have ctb : decide (0 ≤ t) = false := decide_eq_false ct
          clear H ct
          go_wp2_with (go_at_call 58; (with_reducible refine (spec_fgTo.calls a0 (pos : Int) t _ A5.out).mono ?_); rintro e w' ⟨rfl, ⟨nd, rfl⟩⟩)
          go_roundg k1
          case measure => have := HK1.out; omega
          case rel => exact ⟨acc, pos + 1, H', ⟨by have := HK1.out; omega⟩, ⟨Kd.R_drewN HO.out _⟩, ⟨pw_below_drewN HB.out _⟩, HI⟩
      · rw [if_neg c2] at H
        obtain rfl := Option.some.inj H
        have hnx : ∀ ty, (Instr.next (.pointer (some ⟨w.heap.size, 0, none⟩)) true ty).run Tryd.prog wr = .ok (.tuple #[.bool false]) wr := fun ty => iter_end wr w.heap.size a0 pos ty HI.out c2
        clear H
        go_wp2
        go_ret
        exact ⟨_, rfl, Kd.R_mono HO.out (fun _ _ => trivial), HB.out⟩


/-! ### spec_fgAt: function 43 -/
def spec_fgAt.l0 : Nat → ByteArray → List ByteArray → Int → Int → Option (Int)
  | 0, _, _, _, _ => none
  | k + 1, x1, x7, x8, x9 => if x9 < x8 then (if 0 ≤ x9 then (if x9 < (x7.length : Int) then (if (rdOf ByteArray.empty x7 x9).toList = x1.toList then (some x9) else (spec_fgAt.l0 k x1 x7 x8 (wrap64 (x9 + 1)))) else (none)) else (none)) else (some (-1))
def spec_fgAt.f (k : Nat) (l0 : List ByteArray) (a1 : ByteArray) : Option (Int) := spec_fgAt.l0 k a1 l0 (l0.length : Int) 0
theorem spec_fgAt.mono_l : ∀ k, (∀ y0 y1 y2 y3, LeO (spec_fgAt.l0 k y0 y1 y2 y3) (spec_fgAt.l0 (k + 1) y0 y1 y2 y3))
  | 0 => fun _ _ _ _ r h => by simp [spec_fgAt.l0] at h
  | k + 1 => by
    have ih0 := spec_fgAt.mono_l k
    · intro y0 y1 y2 y3
      unfold spec_fgAt.l0
      repeat' first
      | (with_reducible exact ih0 _ _ _ _)
      | (with_reducible exact LeO.refl _)
      | (with_reducible exact LeO.none _)
      | (with_reducible refine LeO.ite ?_ ?_)
      | (with_reducible refine LeO.bind ?_ (fun _ => ?_))
      | exact ih0 _ _ _ _
      | exact LeO.none _
      | refine LeO.ite ?_ ?_
      | refine LeO.bind ?_ (fun _ => ?_)
theorem spec_fgAt.mono : ∀ a0 a1 k, LeO (spec_fgAt.f k a0 a1) (spec_fgAt.f (k + 1) a0 a1) := by
  intro a0 a1 k
  have ih0 := spec_fgAt.mono_l k
  unfold spec_fgAt.f
  repeat' first
      | (with_reducible exact ih0 _ _ _ _)
      | (with_reducible exact LeO.refl _)
      | (with_reducible exact LeO.none _)
      | (with_reducible refine LeO.ite ?_ ?_)
      | (with_reducible refine LeO.bind ?_ (fun _ => ?_))
      | exact ih0 _ _ _ _
      | exact LeO.none _
      | refine LeO.ite ?_ ?_
      | refine LeO.bind ?_ (fun _ => ?_)
set_option maxHeartbeats 8000000 in
set_option maxRecDepth 100000 in
theorem spec_fgAt.calls (k : Nat) (A0 : Option Addr) (c0 : Nat) (l0 : List ByteArray) (a1 : ByteArray) (r : Int) (w : World) (hr0 : Kd.C Kd.string w A0 l0.length l0) (hc0 : l0.length ≤ c0) (h : spec_fgAt.f k l0 a1 = some r) :
    Calls Tryd.prog 43 #[.slice A0 l0.length c0, .string a1] w fun e w' => e = .returned (.int .i64 r) ∧ Drawn0 w w' := by
  have HR0 := Aside0.mk hr0
  have HC0 := Aside0.mk hc0
  clear hr0 hc0
  have H : (spec_fgAt.l0 k a1 l0 (l0.length : Int) 0) = some r := h
  clear h
  have H' := Aside0.mk H
  clear H
  go_enter Tryd.func43, Tryd.ntmps43
  go_wp2
  go_loopg [9] k (fun kq v9 w' => ∃ (x9_1 : Int), v9 = .int .i64 x9_1 ∧ Aside0 (spec_fgAt.l0 kq a1 l0 (l0.length : Int) x9_1 = some r) ∧ Aside0 (kq ≤ k) ∧ Drawn0 w w')
  case atStart => exact ⟨(0), (by first | rfl | (simp; done) | (simp [*]; done)), H', ⟨Nat.le_refl _⟩, by repeat (first | exact Drawn0.refl _ | apply Drawn0.step)⟩
  case round =>
    clear H'
    try clear p2
    obtain ⟨x9_1, rfl, HA, HK1, ⟨m1, rfl⟩⟩ := hrel
    cases gk with
    | zero => exact absurd HA.out (by simp [spec_fgAt.l0])
    | succ k1 =>
      have H := HA.out
      clear HA
      simp only [spec_fgAt.l0] at H
      by_cases c3 : x9_1 < (l0.length : Int)
      · rw [if_pos c3] at H
        have c3b0 : decide (x9_1 < (l0.length : Int)) = true := decide_eq_true c3
        clear c3
        by_cases c4 : 0 ≤ x9_1
        · rw [if_pos c4] at H
          have c4b0 : decide (0 ≤ x9_1) = true := decide_eq_true c4
          clear c4
          by_cases c5 : x9_1 < (l0.length : Int)
          · rw [if_pos c5] at H
            have c5b0 : decide (x9_1 < (l0.length : Int)) = true := decide_eq_true c5
            clear c5
            by_cases c6 : (rdOf ByteArray.empty l0 x9_1).toList = a1.toList
            · rw [if_pos c6] at H
              have c6b0 : ((rdOf ByteArray.empty l0 x9_1).toList == a1.toList) = true := beq_iff_eq.mpr c6
              have c6b1 : ((rdOf ByteArray.empty l0 x9_1).toList != a1.toList) = false := bne_eq_false_iff_eq.mpr c6
              clear c6
              obtain rfl := Option.some.inj H
              have p105 : 0 ≤ (x9_1 : Int) := of_decide_eq_true (by first | (with_reducible assumption) | assumption)
              have q105 : x9_1 < (l0.length : Int) := of_decide_eq_true (by first | (with_reducible assumption) | assumption)
              obtain ⟨ad105, e105, hx105_0⟩ := Kd.at_string HR0.out x9_1 p105 q105
              cases e105
              replace p105 := eq_true p105
              replace q105 := eq_true q105
              go_wp2
              go_ret
              exact ⟨by first | rfl | (simp; done) | (simp [*]; done), by repeat (first | exact Drawn0.refl _ | apply Drawn0.step)⟩
            · rw [if_neg c6] at H
              have c6b0 : ((rdOf ByteArray.empty l0 x9_1).toList == a1.toList) = false := beq_eq_false_iff_ne.mpr c6
              have c6b1 : ((rdOf ByteArray.empty l0 x9_1).toList != a1.toList) = true := bne_iff_ne.mpr c6
              have H' := Aside0.mk H
              clear H
              have p105 : 0 ≤ (x9_1 : Int) := of_decide_eq_true (by first | (with_reducible assumption) | assumption)
              have q105 : x9_1 < (l0.length : Int) := of_decide_eq_true (by first | (with_reducible assumption) | assumption)
              obtain ⟨ad105, e105, hx105_0⟩ := Kd.at_string HR0.out x9_1 p105 q105
              cases e105
              replace p105 := eq_true p105
              replace q105 := eq_true q105
              go_wp2
              go_roundg k1
              case measure => have := HK1.out; omega
              case rel => exact ⟨(wrap64 (x9_1 + 1)), (by first | rfl | (simp; done) | (simp [*]; done)), H', ⟨by have := HK1.out; omega⟩, by repeat (first | exact Drawn0.refl _ | apply Drawn0.step)⟩
          · rw [if_neg c5] at H
            exact absurd H (by simp)
        · rw [if_neg c4] at H
          exact absurd H (by simp)
      · rw [if_neg c3] at H
        have c3b0 : decide (x9_1 < (l0.length : Int)) = false := decide_eq_false c3
        clear c3
        obtain rfl := Option.some.inj H
        go_wp2
        go_ret
        exact ⟨by first | rfl | (simp; done) | (simp [*]; done), by repeat (first | exact Drawn0.refl _ | apply Drawn0.step)⟩

/-! ### spec_fgMove: function 57 -/
--USES helper_moved
def spec_fgMove.f (a0 : ByteArray) (a1 : Int) : Option (ByteArray) := if (a0.size ≤ 1000 ∧ asciiB a0 = true) ∧ 0 ≤ a1 ∧ a1 < (a0.size : Int) then (some (movedB a0 a1)) else none
def spec_fgMove.pre (s : ByteArray) (a1 tgt : Int) (n : Nat) : List UInt8 := (List.range n).map (movedAt s a1 tgt)
theorem spec_fgMove.one (s : ByteArray) (i : Nat) (h : i < s.size) : (s.extract i (i + 1)).data.toList = [s.data.toList.getD i 0] := by
  have hl : i < s.data.toList.length := by simpa using h
  have e : (s.extract i (i + 1)).data.toList = (s.data.toList.drop i).take 1 := by
    simp [ByteArray.data_extract, List.extract_eq_take_drop]
  rw [e, List.drop_eq_getElem_cons hl, List.getD_eq_getElem?_getD, List.getElem?_eq_getElem hl]; rfl
theorem spec_fgMove.step (s acc x : ByteArray) (a1 tgt : Int) (n : Nat) (h : acc.data.toList = spec_fgMove.pre s a1 tgt n) (hx : x.data.toList = [movedAt s a1 tgt n]) : (acc ++ x).data.toList = spec_fgMove.pre s a1 tgt (n + 1) := by
  have e : (acc ++ x).data.toList = acc.data.toList ++ x.data.toList := by simp
  rw [e, h, hx]
  unfold spec_fgMove.pre
  rw [List.range_succ, List.map_append]; rfl
theorem spec_fgMove.sz {s acc : ByteArray} {a1 tgt : Int} {n : Nat} (h : acc.data.toList = spec_fgMove.pre s a1 tgt n) : acc.size = n := by
  have h1 : acc.data.toList.length = acc.size := by simp
  rw [← h1, h]; simp [spec_fgMove.pre]
theorem spec_fgMove.fact {a b : Nat} (h : b ≤ a) : (a < b) = False := eq_false (by omega)
set_option maxHeartbeats 8000000 in
set_option maxRecDepth 100000 in
theorem spec_fgMove.calls (a0 : ByteArray) (a1 : Int) (r : ByteArray) (w : World) (h : spec_fgMove.f a0 a1 = some r) :
    Calls Tryd.prog 57 #[.string a0, .int .i64 a1] w fun e w' => e = .returned (.string r) ∧ Below w.heap.size w w' := by
  unfold spec_fgMove.f at h
  by_cases c : (a0.size ≤ 1000 ∧ asciiB a0 = true) ∧ 0 ≤ a1 ∧ a1 < (a0.size : Int)
  case neg => rw [if_neg c] at h; cases h
  rw [if_pos c] at h
  have HR := Aside0.mk (Option.some.inj h)
  have HC := Aside0.mk c
  clear h
  obtain ⟨tgt, hto⟩ : ∃ tgt, frogTo a0 a1 = tgt := ⟨_, rfl⟩
  have HT := Aside0.mk (show spec_fgTo.f a0 a1 = some tgt by unfold spec_fgTo.f; rw [if_pos c.1.1, hto])
  have HTO := Aside0.mk hto
  clear hto
  obtain ⟨b1, hb1⟩ : ∃ b1, wrap64 (a1 + 1) = b1 := ⟨_, rfl⟩
  have hb1v : b1 = a1 + 1 := by rw [← hb1]; unfold wrap64; omega
  have hb1w : IntKind.i64.wrap (a1 + 1) = b1 := (i64_w _).trans hb1
  have HB1 := Aside0.mk hb1v
  have g1 : (0 ≤ a1) = True := eq_true c.2.1
  have g2 : (a1 ≤ b1) = True := eq_true (by omega)
  have g3 : (b1 ≤ (a0.size : Int)) = True := eq_true (by omega)
  clear c hb1v
  go_enter Tryd.func57, Tryd.ntmps57
  go_wp2_with (go_at_call 58; (with_reducible refine (spec_fgTo.calls a0 a1 tgt _ HT.out).mono ?_); rintro e w' ⟨rfl, ⟨nd, rfl⟩⟩)
  go_loopg [6] (a0.size) (fun kq v6 w' => ∃ (acc : ByteArray) (pos : Nat), v6 = .string acc ∧ Aside0 (kq + pos = a0.size) ∧ Aside0 (acc.data.toList = spec_fgMove.pre a0 a1 tgt pos) ∧ Aside0 (Below w.heap.size w w') ∧ Aside0 (w'.heap[w.heap.size]? = some (.stringIter a0 pos)))
  case atStart => exact ⟨⟨#[]⟩, 0, rfl, ⟨rfl⟩, ⟨rfl⟩, ⟨below_alloc (pw_below_drewN (Below.refl _ _) _) _⟩, ⟨World.iter_heap (w.drewN nd) a0 0⟩⟩
  case round =>
    obtain ⟨acc, pos, rfl, HK, HA, HB, HI⟩ := hrel
    by_cases c2 : pos < a0.size
    · have hk0 : gk ≠ 0 := by have := HK.out; omega
      obtain ⟨k1, rfl⟩ : ∃ k1, gk = k1 + 1 := ⟨gk - 1, by omega⟩
      clear hk0
      obtain ⟨W2, hnx0, hI2, hoth, hsz, hos, htp, hout⟩ := iter_next (P := Tryd.prog) wr w.heap.size a0 pos HI.out c2 (asciiB_at HC.out.1.2 pos c2)
      have hB2 : Below w.heap.size w W2 := by
        have hb := HB.out
        exact ⟨hos.trans hb.os, htp.trans hb.tape, hout.trans hb.output, by rw [hsz]; exact hb.size, fun k hk => (hoth k (by omega)).trans (hb.block k hk)⟩
      clear HI HB hoth hsz hos htp hout
      obtain ⟨p, hp⟩ : ∃ p : Int, (pos : Int) = p := ⟨_, rfl⟩
      obtain ⟨ch, hch⟩ : ∃ ch : Int, ((a0[pos]'c2).toNat : Int) = ch := ⟨_, rfl⟩
      have hnx : ∀ ty, (Instr.next (.pointer (some ⟨w.heap.size, 0, none⟩)) true ty).run Tryd.prog wr = .ok (.tuple #[.bool true, .int .i64 p, .int .i32 ch]) W2 := fun ty => by rw [hnx0 ty, hp, hch]
      clear hnx0 hch
      have HB := Aside0.mk hB2
      have HI := Aside0.mk hI2
      clear hB2 hI2
      have hacc := spec_fgMove.sz HA.out
      have s1000 := HC.out.1.1
      obtain ⟨q, hq⟩ : ∃ q, wrap64 (p + 1) = q := ⟨_, rfl⟩
      have hqv : q = p + 1 := by rw [← hq]; unfold wrap64; omega
      have hqw : IntKind.i64.wrap (p + 1) = q := (i64_w _).trans hq
      have k1' : (0 ≤ p) = True := eq_true (by omega)
      have k2' : (p ≤ q) = True := eq_true (by omega)
      have k3' : (q ≤ (a0.size : Int)) = True := eq_true (by omega)
      have hb1v := HB1.out
      have n1 := spec_fgMove.fact (a := 9223372036854775807) (b := acc.size + 1) (by omega)
      have n2 := spec_fgMove.fact (a := 9223372036854775807) (b := acc.size + (a0.extract a1.toNat b1.toNat).size) (by simp only [ByteArray.size_extract]; omega)
      have n3 := spec_fgMove.fact (a := 9223372036854775807) (b := acc.size + (b1.toNat - a1.toNat)) (by have := of_eq_true g1; omega)
      have n4 := spec_fgMove.fact (a := 9223372036854775807) (b := acc.size + (min b1.toNat a0.size - a1.toNat)) (by omega)
      have n5 := spec_fgMove.fact (a := 9223372036854775807) (b := acc.size + (a0.extract p.toNat q.toNat).size) (by simp only [ByteArray.size_extract]; omega)
      have n6 := spec_fgMove.fact (a := 9223372036854775807) (b := acc.size + (q.toNat - p.toNat)) (by omega)
      have n7 := spec_fgMove.fact (a := 9223372036854775807) (b := acc.size + (min q.toNat a0.size - p.toNat)) (by omega)
      have X1 := Aside0.mk (show (a0.extract p.toNat q.toNat).data.toList = [a0.data.toList.getD pos 0] from by
        rw [show p.toNat = pos by omega, show q.toNat = pos + 1 by omega]; exact spec_fgMove.one a0 pos c2)
      have X2 := Aside0.mk (show (a0.extract a1.toNat b1.toNat).data.toList = [a0.data.toList.getD a1.toNat 0] from by
        have h3 := HC.out.2
        rw [show b1.toNat = a1.toNat + 1 by omega]; exact spec_fgMove.one a0 a1.toNat (by omega))
      have HP := Aside0.mk hp
      clear hqv hacc s1000 hb1v hp
      by_cases d1 : p = a1
      · have d1b : (p == a1) = true := beq_iff_eq.mpr d1
        have D1 := Aside0.mk d1
        clear d1
        go_wp2
        go_roundg k1
        case measure => have := HK.out; omega
        case rel => exact ⟨acc ++ ⟨#[46]⟩, pos + 1, rfl, ⟨by have := HK.out; omega⟩, ⟨spec_fgMove.step a0 acc _ a1 tgt pos HA.out (by unfold movedAt; rw [if_pos (HP.out.trans D1.out)])⟩, HB, HI⟩
      · have d1b : (p == a1) = false := beq_eq_false_iff_ne.mpr d1
        have D1 := Aside0.mk d1
        clear d1
        by_cases d2 : p = tgt
        · have d2b : (p == tgt) = true := beq_iff_eq.mpr d2
          have D2 := Aside0.mk d2
          clear d2
          go_wp2
          go_roundg k1
          case measure => have := HK.out; omega
          case rel => exact ⟨acc ++ a0.extract a1.toNat b1.toNat, pos + 1, rfl, ⟨by have := HK.out; omega⟩, ⟨spec_fgMove.step a0 acc _ a1 tgt pos HA.out (by rw [X2.out]; unfold movedAt; rw [if_neg (fun e => D1.out (HP.out.symm.trans e)), if_pos (HP.out.trans D2.out)])⟩, HB, HI⟩
        · have d2b : (p == tgt) = false := beq_eq_false_iff_ne.mpr d2
          have D2 := Aside0.mk d2
          clear d2
          go_wp2
          go_roundg k1
          case measure => have := HK.out; omega
          case rel => exact ⟨acc ++ a0.extract p.toNat q.toNat, pos + 1, rfl, ⟨by have := HK.out; omega⟩, ⟨spec_fgMove.step a0 acc _ a1 tgt pos HA.out (by rw [X1.out]; unfold movedAt; rw [if_neg (fun e => D1.out (HP.out.symm.trans e)), if_neg (fun e => D2.out (HP.out.symm.trans e))])⟩, HB, HI⟩
    · have hnx : ∀ ty, (Instr.next (.pointer (some ⟨w.heap.size, 0, none⟩)) true ty).run Tryd.prog wr = .ok (.tuple #[.bool false]) wr := fun ty => iter_end wr w.heap.size a0 pos ty HI.out c2
      have HE := Aside0.mk (show acc = r from by
        have hk := HK.out
        have hI := HI.out
        have h1 := spec_fgMove.sz HA.out
        have h2 : pos = a0.size := by
          by_cases h3 : gk = 0
          · omega
          · omega
        rw [← HR.out]
        have e : acc.data.toList = (movedB a0 a1).data.toList := by
          rw [HA.out, h2]
          unfold movedB spec_fgMove.pre
          rw [HTO.out]
        cases acc
        congr 1
        exact Array.toList_inj.1 e)
      clear c2
      go_wp2
      go_ret
      exact ⟨by rw [HE.out]; rfl, HB.out⟩


end Go.Proofs.YtkikpfeipejnlaaDoor.PFnExactFirstFrogMoves
