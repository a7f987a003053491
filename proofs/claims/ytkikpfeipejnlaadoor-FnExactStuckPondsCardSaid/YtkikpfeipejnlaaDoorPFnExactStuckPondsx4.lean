-- Printed by this session's eprint.py over the kit's print (with this session's own texts for some functions)
import Derived.Test.YtkikpfeipejnlaaDoorPFnExactStuckPondsx0
import Derived.Test.YtkikpfeipejnlaaDoorPFnExactStuckPondsx1
import Derived.Test.YtkikpfeipejnlaaDoorPFnExactStuckPondsx3
namespace Go.Proofs.YtkikpfeipejnlaaDoor.PFnExactStuckPonds
open Go.RowKit Go.Proofs.YtkikpfeipejnlaaDoorW.PrintWords Go.Proofs.YtkikpfeipejnlaaDoorW.PrintLast Go.Proofs.YtkikpfeipejnlaaDoorW.PrintMore
attribute [local go_sem] max2_int min2_int max_two min_two max_three min_three max_four min_four   -- for this text's walks alone
set_option linter.unusedVariables false
set_option linter.unusedSimpArgs false

/-! ### impl_target: function 77 -/
--USES helper_frog
theorem impl_target.cell0 (w : World) (s : ByteArray) : (w.alloc (.cells #[.string s] 9)).cell? ⟨w.heap.size, 0, none⟩ = some (.string s) := by
  rw [World.cell?_alloc_at _ _ _ _ rfl]; rfl
theorem impl_target.cellN (w : World) (s : ByteArray) (m : Nat) : ((w.alloc (.cells #[.string s] 9)).drewN m).cell? ⟨w.heap.size, 0, none⟩ = some (.string s) := impl_target.cell0 w s
set_option maxHeartbeats 8000000 in
set_option maxRecDepth 100000 in
theorem impl_target.cl (s : ByteArray) (x m : Int) (r : Bool) (B : Nat) (w : World) (hm : wrap64 ((s.size : Int) - 1) = m) (hc : w.cell? ⟨B, 0, none⟩ = some (.string s)) (h : impl_within.f x 0 m = some r) :
    Calls Tryd.prog 103 #[.int .i64 x, .pointer (some ⟨B, 0, none⟩)] w fun e w' => e = .returned (.bool r) ∧ Drawn0 w w' := by
  have H := Aside0.mk h
  have hmw : IntKind.i64.wrap ((s.size : Int) - 1) = m := (i64_w _).trans hm
  clear h
  go_enter Tryd.func103, Tryd.ntmps103
  go_wp2_with (go_at_call 59; (with_reducible refine (impl_within.calls x 0 m r _ H.out).mono ?_); rintro e w' ⟨rfl, ⟨nd, rfl⟩⟩)
  go_ret
  exact ⟨rfl, ⟨_, rfl⟩⟩
set_option maxHeartbeats 8000000 in
set_option maxRecDepth 100000 in
theorem impl_target.wdot (s : ByteArray) (i j1 j2 m : Int) (w : World) (hm : wrap64 ((s.size : Int) - 1) = m) (p0 : 0 ≤ i) (q0 : i < (s.size : Int)) (e46 : (bt s i == 46) = true) :
    Calls Tryd.prog 77 #[.string s, .int .i64 i] w fun e w' => e = .returned (.int .i64 (-1)) ∧ Below w.heap.size w w' := by
  have HM := Aside0.mk hm
  clear hm
  have HW := Aside0.mk (fun nd => impl_target.cellN w s nd)
  have HW0 := Aside0.mk (impl_target.cell0 w s)
  have hmf : ∀ (fn : Fn) (first cap : Array Value) (w : World), (Instr.makeFunc fn first cap).run Tryd.prog w = .ok (.func fn first cap) w := fun _ _ _ _ => rfl
  have x0 := bt_at s i
  replace p0 := eq_true p0
  replace q0 := eq_true q0
  have n46 : (bt s i != 46) = false := by unfold bne; rw [e46]; rfl
  go_enter Tryd.func77, Tryd.ntmps77
  go_wp2
  go_ret
  exact ⟨by first | rfl | (simp; done) | (simp [*]; done), by repeat (first | exact Below.refl _ _ | apply below_alloc | apply pw_below_drewN | apply below_drew1)⟩
set_option maxHeartbeats 8000000 in
set_option maxRecDepth 100000 in
theorem impl_target.wr1 (s : ByteArray) (i j1 j2 m : Int) (w : World) (hm : wrap64 ((s.size : Int) - 1) = m) (p0 : 0 ≤ i) (q0 : i < (s.size : Int)) (e46 : (bt s i == 46) = false) (e108 : (bt s i == 108) = false) (h0 : wrap64 (i + 1) = j1) (h1 : wrap64 (i + 2) = j2) (A1 : impl_within.f j1 0 m = some true) (p1 : 0 ≤ j1) (q1 : j1 < (s.size : Int)) (ea : (bt s j1 == 46) = true) :
    Calls Tryd.prog 77 #[.string s, .int .i64 i] w fun e w' => e = .returned (.int .i64 j1) ∧ Below w.heap.size w w' := by
  have HM := Aside0.mk hm
  clear hm
  have HW := Aside0.mk (fun nd => impl_target.cellN w s nd)
  have HW0 := Aside0.mk (impl_target.cell0 w s)
  have hmf : ∀ (fn : Fn) (first cap : Array Value) (w : World), (Instr.makeFunc fn first cap).run Tryd.prog w = .ok (.func fn first cap) w := fun _ _ _ _ => rfl
  have x0 := bt_at s i
  replace p0 := eq_true p0
  replace q0 := eq_true q0
  have n46 : (bt s i != 46) = true := by unfold bne; rw [e46]; rfl
  have n108 : (bt s i != 108) = true := by unfold bne; rw [e108]; rfl
  have h0w : IntKind.i64.wrap (i + 1) = j1 := (i64_w _).trans h0
  have h1w : IntKind.i64.wrap (i + 2) = j2 := (i64_w _).trans h1
  have B1 := Aside0.mk A1
  clear A1
  have x1 := bt_at s j1
  replace p1 := eq_true p1
  replace q1 := eq_true q1
  have na : (bt s j1 != 46) = false := by unfold bne; rw [ea]; rfl
  go_enter Tryd.func77, Tryd.ntmps77
  go_wp2_with (first | (go_at_call 103; (with_reducible refine (impl_target.cl s j1 m true w.heap.size _ HM.out HW0.out B1.out).mono ?_); rintro e w' ⟨rfl, ⟨nd, rfl⟩⟩; (try first | exact ⟨rfl, _, World.drewN_drewN _ _ _⟩ | exact ⟨rfl, _, Eq.trans (World.drewN_drewN _ _ _) (congrArg (World.drewN _) (Nat.add_assoc _ _ _))⟩)) | (go_at_call 103; (with_reducible refine (impl_target.cl s j1 m true w.heap.size _ HM.out (HW.out _) B1.out).mono ?_); rintro e w' ⟨rfl, ⟨nd, rfl⟩⟩; (try first | exact ⟨rfl, _, World.drewN_drewN _ _ _⟩ | exact ⟨rfl, _, Eq.trans (World.drewN_drewN _ _ _) (congrArg (World.drewN _) (Nat.add_assoc _ _ _))⟩)))
  repeat (go_quiet (first | (go_at_call 103; (with_reducible refine (impl_target.cl s j1 m true w.heap.size _ HM.out HW0.out B1.out).mono ?_); rintro e w' ⟨rfl, ⟨nd, rfl⟩⟩; (try first | exact ⟨rfl, _, World.drewN_drewN _ _ _⟩ | exact ⟨rfl, _, Eq.trans (World.drewN_drewN _ _ _) (congrArg (World.drewN _) (Nat.add_assoc _ _ _))⟩)) | (go_at_call 103; (with_reducible refine (impl_target.cl s j1 m true w.heap.size _ HM.out (HW.out _) B1.out).mono ?_); rintro e w' ⟨rfl, ⟨nd, rfl⟩⟩; (try first | exact ⟨rfl, _, World.drewN_drewN _ _ _⟩ | exact ⟨rfl, _, Eq.trans (World.drewN_drewN _ _ _) (congrArg (World.drewN _) (Nat.add_assoc _ _ _))⟩))); try go_wp2_with (first | (go_at_call 103; (with_reducible refine (impl_target.cl s j1 m true w.heap.size _ HM.out HW0.out B1.out).mono ?_); rintro e w' ⟨rfl, ⟨nd, rfl⟩⟩; (try first | exact ⟨rfl, _, World.drewN_drewN _ _ _⟩ | exact ⟨rfl, _, Eq.trans (World.drewN_drewN _ _ _) (congrArg (World.drewN _) (Nat.add_assoc _ _ _))⟩)) | (go_at_call 103; (with_reducible refine (impl_target.cl s j1 m true w.heap.size _ HM.out (HW.out _) B1.out).mono ?_); rintro e w' ⟨rfl, ⟨nd, rfl⟩⟩; (try first | exact ⟨rfl, _, World.drewN_drewN _ _ _⟩ | exact ⟨rfl, _, Eq.trans (World.drewN_drewN _ _ _) (congrArg (World.drewN _) (Nat.add_assoc _ _ _))⟩))))
  go_ret
  exact ⟨by first | rfl | (simp; done) | (simp [*]; done), by repeat (first | exact Below.refl _ _ | apply below_alloc | apply pw_below_drewN | apply below_drew1)⟩
set_option maxHeartbeats 8000000 in
set_option maxRecDepth 100000 in
theorem impl_target.wr1000 (s : ByteArray) (i j1 j2 m : Int) (w : World) (hm : wrap64 ((s.size : Int) - 1) = m) (p0 : 0 ≤ i) (q0 : i < (s.size : Int)) (e46 : (bt s i == 46) = false) (e108 : (bt s i == 108) = false) (h0 : wrap64 (i + 1) = j1) (h1 : wrap64 (i + 2) = j2) (A1 : impl_within.f j1 0 m = some true) (p1 : 0 ≤ j1) (q1 : j1 < (s.size : Int)) (ea : (bt s j1 == 46) = false) (A2 : impl_within.f j2 0 m = some false) :
    Calls Tryd.prog 77 #[.string s, .int .i64 i] w fun e w' => e = .returned (.int .i64 (-1)) ∧ Below w.heap.size w w' := by
  have HM := Aside0.mk hm
  clear hm
  have HW := Aside0.mk (fun nd => impl_target.cellN w s nd)
  have HW0 := Aside0.mk (impl_target.cell0 w s)
  have hmf : ∀ (fn : Fn) (first cap : Array Value) (w : World), (Instr.makeFunc fn first cap).run Tryd.prog w = .ok (.func fn first cap) w := fun _ _ _ _ => rfl
  have x0 := bt_at s i
  replace p0 := eq_true p0
  replace q0 := eq_true q0
  have n46 : (bt s i != 46) = true := by unfold bne; rw [e46]; rfl
  have n108 : (bt s i != 108) = true := by unfold bne; rw [e108]; rfl
  have h0w : IntKind.i64.wrap (i + 1) = j1 := (i64_w _).trans h0
  have h1w : IntKind.i64.wrap (i + 2) = j2 := (i64_w _).trans h1
  have B1 := Aside0.mk A1
  clear A1
  have x1 := bt_at s j1
  replace p1 := eq_true p1
  replace q1 := eq_true q1
  have na : (bt s j1 != 46) = true := by unfold bne; rw [ea]; rfl
  have B2 := Aside0.mk A2
  clear A2
  go_enter Tryd.func77, Tryd.ntmps77
  go_wp2_with (first | (go_at_call 103; (with_reducible refine (impl_target.cl s j1 m true w.heap.size _ HM.out HW0.out B1.out).mono ?_); rintro e w' ⟨rfl, ⟨nd, rfl⟩⟩; (try first | exact ⟨rfl, _, World.drewN_drewN _ _ _⟩ | exact ⟨rfl, _, Eq.trans (World.drewN_drewN _ _ _) (congrArg (World.drewN _) (Nat.add_assoc _ _ _))⟩)) | (go_at_call 103; (with_reducible refine (impl_target.cl s j1 m true w.heap.size _ HM.out (HW.out _) B1.out).mono ?_); rintro e w' ⟨rfl, ⟨nd, rfl⟩⟩; (try first | exact ⟨rfl, _, World.drewN_drewN _ _ _⟩ | exact ⟨rfl, _, Eq.trans (World.drewN_drewN _ _ _) (congrArg (World.drewN _) (Nat.add_assoc _ _ _))⟩)) | (go_at_call 103; (with_reducible refine (impl_target.cl s j2 m false w.heap.size _ HM.out HW0.out B2.out).mono ?_); rintro e w' ⟨rfl, ⟨nd, rfl⟩⟩; (try first | exact ⟨rfl, _, World.drewN_drewN _ _ _⟩ | exact ⟨rfl, _, Eq.trans (World.drewN_drewN _ _ _) (congrArg (World.drewN _) (Nat.add_assoc _ _ _))⟩)) | (go_at_call 103; (with_reducible refine (impl_target.cl s j2 m false w.heap.size _ HM.out (HW.out _) B2.out).mono ?_); rintro e w' ⟨rfl, ⟨nd, rfl⟩⟩; (try first | exact ⟨rfl, _, World.drewN_drewN _ _ _⟩ | exact ⟨rfl, _, Eq.trans (World.drewN_drewN _ _ _) (congrArg (World.drewN _) (Nat.add_assoc _ _ _))⟩)))
  repeat (go_quiet (first | (go_at_call 103; (with_reducible refine (impl_target.cl s j1 m true w.heap.size _ HM.out HW0.out B1.out).mono ?_); rintro e w' ⟨rfl, ⟨nd, rfl⟩⟩; (try first | exact ⟨rfl, _, World.drewN_drewN _ _ _⟩ | exact ⟨rfl, _, Eq.trans (World.drewN_drewN _ _ _) (congrArg (World.drewN _) (Nat.add_assoc _ _ _))⟩)) | (go_at_call 103; (with_reducible refine (impl_target.cl s j1 m true w.heap.size _ HM.out (HW.out _) B1.out).mono ?_); rintro e w' ⟨rfl, ⟨nd, rfl⟩⟩; (try first | exact ⟨rfl, _, World.drewN_drewN _ _ _⟩ | exact ⟨rfl, _, Eq.trans (World.drewN_drewN _ _ _) (congrArg (World.drewN _) (Nat.add_assoc _ _ _))⟩)) | (go_at_call 103; (with_reducible refine (impl_target.cl s j2 m false w.heap.size _ HM.out HW0.out B2.out).mono ?_); rintro e w' ⟨rfl, ⟨nd, rfl⟩⟩; (try first | exact ⟨rfl, _, World.drewN_drewN _ _ _⟩ | exact ⟨rfl, _, Eq.trans (World.drewN_drewN _ _ _) (congrArg (World.drewN _) (Nat.add_assoc _ _ _))⟩)) | (go_at_call 103; (with_reducible refine (impl_target.cl s j2 m false w.heap.size _ HM.out (HW.out _) B2.out).mono ?_); rintro e w' ⟨rfl, ⟨nd, rfl⟩⟩; (try first | exact ⟨rfl, _, World.drewN_drewN _ _ _⟩ | exact ⟨rfl, _, Eq.trans (World.drewN_drewN _ _ _) (congrArg (World.drewN _) (Nat.add_assoc _ _ _))⟩))); try go_wp2_with (first | (go_at_call 103; (with_reducible refine (impl_target.cl s j1 m true w.heap.size _ HM.out HW0.out B1.out).mono ?_); rintro e w' ⟨rfl, ⟨nd, rfl⟩⟩; (try first | exact ⟨rfl, _, World.drewN_drewN _ _ _⟩ | exact ⟨rfl, _, Eq.trans (World.drewN_drewN _ _ _) (congrArg (World.drewN _) (Nat.add_assoc _ _ _))⟩)) | (go_at_call 103; (with_reducible refine (impl_target.cl s j1 m true w.heap.size _ HM.out (HW.out _) B1.out).mono ?_); rintro e w' ⟨rfl, ⟨nd, rfl⟩⟩; (try first | exact ⟨rfl, _, World.drewN_drewN _ _ _⟩ | exact ⟨rfl, _, Eq.trans (World.drewN_drewN _ _ _) (congrArg (World.drewN _) (Nat.add_assoc _ _ _))⟩)) | (go_at_call 103; (with_reducible refine (impl_target.cl s j2 m false w.heap.size _ HM.out HW0.out B2.out).mono ?_); rintro e w' ⟨rfl, ⟨nd, rfl⟩⟩; (try first | exact ⟨rfl, _, World.drewN_drewN _ _ _⟩ | exact ⟨rfl, _, Eq.trans (World.drewN_drewN _ _ _) (congrArg (World.drewN _) (Nat.add_assoc _ _ _))⟩)) | (go_at_call 103; (with_reducible refine (impl_target.cl s j2 m false w.heap.size _ HM.out (HW.out _) B2.out).mono ?_); rintro e w' ⟨rfl, ⟨nd, rfl⟩⟩; (try first | exact ⟨rfl, _, World.drewN_drewN _ _ _⟩ | exact ⟨rfl, _, Eq.trans (World.drewN_drewN _ _ _) (congrArg (World.drewN _) (Nat.add_assoc _ _ _))⟩))))
  go_ret
  exact ⟨by first | rfl | (simp; done) | (simp [*]; done), by repeat (first | exact Below.refl _ _ | apply below_alloc | apply pw_below_drewN | apply below_drew1)⟩
set_option maxHeartbeats 8000000 in
set_option maxRecDepth 100000 in
theorem impl_target.wr1100 (s : ByteArray) (i j1 j2 m : Int) (w : World) (hm : wrap64 ((s.size : Int) - 1) = m) (p0 : 0 ≤ i) (q0 : i < (s.size : Int)) (e46 : (bt s i == 46) = false) (e108 : (bt s i == 108) = false) (h0 : wrap64 (i + 1) = j1) (h1 : wrap64 (i + 2) = j2) (A1 : impl_within.f j1 0 m = some true) (p1 : 0 ≤ j1) (q1 : j1 < (s.size : Int)) (ea : (bt s j1 == 46) = false) (A2 : impl_within.f j2 0 m = some true) (p2 : 0 ≤ j2) (q2 : j2 < (s.size : Int)) (eb : (bt s j2 == 46) = false) :
    Calls Tryd.prog 77 #[.string s, .int .i64 i] w fun e w' => e = .returned (.int .i64 (-1)) ∧ Below w.heap.size w w' := by
  have HM := Aside0.mk hm
  clear hm
  have HW := Aside0.mk (fun nd => impl_target.cellN w s nd)
  have HW0 := Aside0.mk (impl_target.cell0 w s)
  have hmf : ∀ (fn : Fn) (first cap : Array Value) (w : World), (Instr.makeFunc fn first cap).run Tryd.prog w = .ok (.func fn first cap) w := fun _ _ _ _ => rfl
  have x0 := bt_at s i
  replace p0 := eq_true p0
  replace q0 := eq_true q0
  have n46 : (bt s i != 46) = true := by unfold bne; rw [e46]; rfl
  have n108 : (bt s i != 108) = true := by unfold bne; rw [e108]; rfl
  have h0w : IntKind.i64.wrap (i + 1) = j1 := (i64_w _).trans h0
  have h1w : IntKind.i64.wrap (i + 2) = j2 := (i64_w _).trans h1
  have B1 := Aside0.mk A1
  clear A1
  have x1 := bt_at s j1
  replace p1 := eq_true p1
  replace q1 := eq_true q1
  have na : (bt s j1 != 46) = true := by unfold bne; rw [ea]; rfl
  have B2 := Aside0.mk A2
  clear A2
  have x2 := bt_at s j2
  replace p2 := eq_true p2
  replace q2 := eq_true q2
  have nb : (bt s j2 != 46) = true := by unfold bne; rw [eb]; rfl
  go_enter Tryd.func77, Tryd.ntmps77
  go_wp2_with (first | (go_at_call 103; (with_reducible refine (impl_target.cl s j1 m true w.heap.size _ HM.out HW0.out B1.out).mono ?_); rintro e w' ⟨rfl, ⟨nd, rfl⟩⟩; (try first | exact ⟨rfl, _, World.drewN_drewN _ _ _⟩ | exact ⟨rfl, _, Eq.trans (World.drewN_drewN _ _ _) (congrArg (World.drewN _) (Nat.add_assoc _ _ _))⟩)) | (go_at_call 103; (with_reducible refine (impl_target.cl s j1 m true w.heap.size _ HM.out (HW.out _) B1.out).mono ?_); rintro e w' ⟨rfl, ⟨nd, rfl⟩⟩; (try first | exact ⟨rfl, _, World.drewN_drewN _ _ _⟩ | exact ⟨rfl, _, Eq.trans (World.drewN_drewN _ _ _) (congrArg (World.drewN _) (Nat.add_assoc _ _ _))⟩)) | (go_at_call 103; (with_reducible refine (impl_target.cl s j2 m true w.heap.size _ HM.out HW0.out B2.out).mono ?_); rintro e w' ⟨rfl, ⟨nd, rfl⟩⟩; (try first | exact ⟨rfl, _, World.drewN_drewN _ _ _⟩ | exact ⟨rfl, _, Eq.trans (World.drewN_drewN _ _ _) (congrArg (World.drewN _) (Nat.add_assoc _ _ _))⟩)) | (go_at_call 103; (with_reducible refine (impl_target.cl s j2 m true w.heap.size _ HM.out (HW.out _) B2.out).mono ?_); rintro e w' ⟨rfl, ⟨nd, rfl⟩⟩; (try first | exact ⟨rfl, _, World.drewN_drewN _ _ _⟩ | exact ⟨rfl, _, Eq.trans (World.drewN_drewN _ _ _) (congrArg (World.drewN _) (Nat.add_assoc _ _ _))⟩)))
  repeat (go_quiet (first | (go_at_call 103; (with_reducible refine (impl_target.cl s j1 m true w.heap.size _ HM.out HW0.out B1.out).mono ?_); rintro e w' ⟨rfl, ⟨nd, rfl⟩⟩; (try first | exact ⟨rfl, _, World.drewN_drewN _ _ _⟩ | exact ⟨rfl, _, Eq.trans (World.drewN_drewN _ _ _) (congrArg (World.drewN _) (Nat.add_assoc _ _ _))⟩)) | (go_at_call 103; (with_reducible refine (impl_target.cl s j1 m true w.heap.size _ HM.out (HW.out _) B1.out).mono ?_); rintro e w' ⟨rfl, ⟨nd, rfl⟩⟩; (try first | exact ⟨rfl, _, World.drewN_drewN _ _ _⟩ | exact ⟨rfl, _, Eq.trans (World.drewN_drewN _ _ _) (congrArg (World.drewN _) (Nat.add_assoc _ _ _))⟩)) | (go_at_call 103; (with_reducible refine (impl_target.cl s j2 m true w.heap.size _ HM.out HW0.out B2.out).mono ?_); rintro e w' ⟨rfl, ⟨nd, rfl⟩⟩; (try first | exact ⟨rfl, _, World.drewN_drewN _ _ _⟩ | exact ⟨rfl, _, Eq.trans (World.drewN_drewN _ _ _) (congrArg (World.drewN _) (Nat.add_assoc _ _ _))⟩)) | (go_at_call 103; (with_reducible refine (impl_target.cl s j2 m true w.heap.size _ HM.out (HW.out _) B2.out).mono ?_); rintro e w' ⟨rfl, ⟨nd, rfl⟩⟩; (try first | exact ⟨rfl, _, World.drewN_drewN _ _ _⟩ | exact ⟨rfl, _, Eq.trans (World.drewN_drewN _ _ _) (congrArg (World.drewN _) (Nat.add_assoc _ _ _))⟩))); try go_wp2_with (first | (go_at_call 103; (with_reducible refine (impl_target.cl s j1 m true w.heap.size _ HM.out HW0.out B1.out).mono ?_); rintro e w' ⟨rfl, ⟨nd, rfl⟩⟩; (try first | exact ⟨rfl, _, World.drewN_drewN _ _ _⟩ | exact ⟨rfl, _, Eq.trans (World.drewN_drewN _ _ _) (congrArg (World.drewN _) (Nat.add_assoc _ _ _))⟩)) | (go_at_call 103; (with_reducible refine (impl_target.cl s j1 m true w.heap.size _ HM.out (HW.out _) B1.out).mono ?_); rintro e w' ⟨rfl, ⟨nd, rfl⟩⟩; (try first | exact ⟨rfl, _, World.drewN_drewN _ _ _⟩ | exact ⟨rfl, _, Eq.trans (World.drewN_drewN _ _ _) (congrArg (World.drewN _) (Nat.add_assoc _ _ _))⟩)) | (go_at_call 103; (with_reducible refine (impl_target.cl s j2 m true w.heap.size _ HM.out HW0.out B2.out).mono ?_); rintro e w' ⟨rfl, ⟨nd, rfl⟩⟩; (try first | exact ⟨rfl, _, World.drewN_drewN _ _ _⟩ | exact ⟨rfl, _, Eq.trans (World.drewN_drewN _ _ _) (congrArg (World.drewN _) (Nat.add_assoc _ _ _))⟩)) | (go_at_call 103; (with_reducible refine (impl_target.cl s j2 m true w.heap.size _ HM.out (HW.out _) B2.out).mono ?_); rintro e w' ⟨rfl, ⟨nd, rfl⟩⟩; (try first | exact ⟨rfl, _, World.drewN_drewN _ _ _⟩ | exact ⟨rfl, _, Eq.trans (World.drewN_drewN _ _ _) (congrArg (World.drewN _) (Nat.add_assoc _ _ _))⟩))))
  go_ret
  exact ⟨by first | rfl | (simp; done) | (simp [*]; done), by repeat (first | exact Below.refl _ _ | apply below_alloc | apply pw_below_drewN | apply below_drew1)⟩
set_option maxHeartbeats 8000000 in
set_option maxRecDepth 100000 in
theorem impl_target.wr1110 (s : ByteArray) (i j1 j2 m : Int) (w : World) (hm : wrap64 ((s.size : Int) - 1) = m) (p0 : 0 ≤ i) (q0 : i < (s.size : Int)) (e46 : (bt s i == 46) = false) (e108 : (bt s i == 108) = false) (h0 : wrap64 (i + 1) = j1) (h1 : wrap64 (i + 2) = j2) (A1 : impl_within.f j1 0 m = some true) (p1 : 0 ≤ j1) (q1 : j1 < (s.size : Int)) (ea : (bt s j1 == 46) = false) (A2 : impl_within.f j2 0 m = some true) (p2 : 0 ≤ j2) (q2 : j2 < (s.size : Int)) (eb : (bt s j2 == 46) = true) (ec : (bt s j1 == bt s i) = true) :
    Calls Tryd.prog 77 #[.string s, .int .i64 i] w fun e w' => e = .returned (.int .i64 (-1)) ∧ Below w.heap.size w w' := by
  have HM := Aside0.mk hm
  clear hm
  have HW := Aside0.mk (fun nd => impl_target.cellN w s nd)
  have HW0 := Aside0.mk (impl_target.cell0 w s)
  have hmf : ∀ (fn : Fn) (first cap : Array Value) (w : World), (Instr.makeFunc fn first cap).run Tryd.prog w = .ok (.func fn first cap) w := fun _ _ _ _ => rfl
  have x0 := bt_at s i
  replace p0 := eq_true p0
  replace q0 := eq_true q0
  have n46 : (bt s i != 46) = true := by unfold bne; rw [e46]; rfl
  have n108 : (bt s i != 108) = true := by unfold bne; rw [e108]; rfl
  have h0w : IntKind.i64.wrap (i + 1) = j1 := (i64_w _).trans h0
  have h1w : IntKind.i64.wrap (i + 2) = j2 := (i64_w _).trans h1
  have B1 := Aside0.mk A1
  clear A1
  have x1 := bt_at s j1
  replace p1 := eq_true p1
  replace q1 := eq_true q1
  have na : (bt s j1 != 46) = true := by unfold bne; rw [ea]; rfl
  have B2 := Aside0.mk A2
  clear A2
  have x2 := bt_at s j2
  replace p2 := eq_true p2
  replace q2 := eq_true q2
  have nb : (bt s j2 != 46) = false := by unfold bne; rw [eb]; rfl
  have nc : (bt s j1 != bt s i) = false := by unfold bne; rw [ec]; rfl
  go_enter Tryd.func77, Tryd.ntmps77
  go_wp2_with (first | (go_at_call 103; (with_reducible refine (impl_target.cl s j1 m true w.heap.size _ HM.out HW0.out B1.out).mono ?_); rintro e w' ⟨rfl, ⟨nd, rfl⟩⟩; (try first | exact ⟨rfl, _, World.drewN_drewN _ _ _⟩ | exact ⟨rfl, _, Eq.trans (World.drewN_drewN _ _ _) (congrArg (World.drewN _) (Nat.add_assoc _ _ _))⟩)) | (go_at_call 103; (with_reducible refine (impl_target.cl s j1 m true w.heap.size _ HM.out (HW.out _) B1.out).mono ?_); rintro e w' ⟨rfl, ⟨nd, rfl⟩⟩; (try first | exact ⟨rfl, _, World.drewN_drewN _ _ _⟩ | exact ⟨rfl, _, Eq.trans (World.drewN_drewN _ _ _) (congrArg (World.drewN _) (Nat.add_assoc _ _ _))⟩)) | (go_at_call 103; (with_reducible refine (impl_target.cl s j2 m true w.heap.size _ HM.out HW0.out B2.out).mono ?_); rintro e w' ⟨rfl, ⟨nd, rfl⟩⟩; (try first | exact ⟨rfl, _, World.drewN_drewN _ _ _⟩ | exact ⟨rfl, _, Eq.trans (World.drewN_drewN _ _ _) (congrArg (World.drewN _) (Nat.add_assoc _ _ _))⟩)) | (go_at_call 103; (with_reducible refine (impl_target.cl s j2 m true w.heap.size _ HM.out (HW.out _) B2.out).mono ?_); rintro e w' ⟨rfl, ⟨nd, rfl⟩⟩; (try first | exact ⟨rfl, _, World.drewN_drewN _ _ _⟩ | exact ⟨rfl, _, Eq.trans (World.drewN_drewN _ _ _) (congrArg (World.drewN _) (Nat.add_assoc _ _ _))⟩)))
  repeat (go_quiet (first | (go_at_call 103; (with_reducible refine (impl_target.cl s j1 m true w.heap.size _ HM.out HW0.out B1.out).mono ?_); rintro e w' ⟨rfl, ⟨nd, rfl⟩⟩; (try first | exact ⟨rfl, _, World.drewN_drewN _ _ _⟩ | exact ⟨rfl, _, Eq.trans (World.drewN_drewN _ _ _) (congrArg (World.drewN _) (Nat.add_assoc _ _ _))⟩)) | (go_at_call 103; (with_reducible refine (impl_target.cl s j1 m true w.heap.size _ HM.out (HW.out _) B1.out).mono ?_); rintro e w' ⟨rfl, ⟨nd, rfl⟩⟩; (try first | exact ⟨rfl, _, World.drewN_drewN _ _ _⟩ | exact ⟨rfl, _, Eq.trans (World.drewN_drewN _ _ _) (congrArg (World.drewN _) (Nat.add_assoc _ _ _))⟩)) | (go_at_call 103; (with_reducible refine (impl_target.cl s j2 m true w.heap.size _ HM.out HW0.out B2.out).mono ?_); rintro e w' ⟨rfl, ⟨nd, rfl⟩⟩; (try first | exact ⟨rfl, _, World.drewN_drewN _ _ _⟩ | exact ⟨rfl, _, Eq.trans (World.drewN_drewN _ _ _) (congrArg (World.drewN _) (Nat.add_assoc _ _ _))⟩)) | (go_at_call 103; (with_reducible refine (impl_target.cl s j2 m true w.heap.size _ HM.out (HW.out _) B2.out).mono ?_); rintro e w' ⟨rfl, ⟨nd, rfl⟩⟩; (try first | exact ⟨rfl, _, World.drewN_drewN _ _ _⟩ | exact ⟨rfl, _, Eq.trans (World.drewN_drewN _ _ _) (congrArg (World.drewN _) (Nat.add_assoc _ _ _))⟩))); try go_wp2_with (first | (go_at_call 103; (with_reducible refine (impl_target.cl s j1 m true w.heap.size _ HM.out HW0.out B1.out).mono ?_); rintro e w' ⟨rfl, ⟨nd, rfl⟩⟩; (try first | exact ⟨rfl, _, World.drewN_drewN _ _ _⟩ | exact ⟨rfl, _, Eq.trans (World.drewN_drewN _ _ _) (congrArg (World.drewN _) (Nat.add_assoc _ _ _))⟩)) | (go_at_call 103; (with_reducible refine (impl_target.cl s j1 m true w.heap.size _ HM.out (HW.out _) B1.out).mono ?_); rintro e w' ⟨rfl, ⟨nd, rfl⟩⟩; (try first | exact ⟨rfl, _, World.drewN_drewN _ _ _⟩ | exact ⟨rfl, _, Eq.trans (World.drewN_drewN _ _ _) (congrArg (World.drewN _) (Nat.add_assoc _ _ _))⟩)) | (go_at_call 103; (with_reducible refine (impl_target.cl s j2 m true w.heap.size _ HM.out HW0.out B2.out).mono ?_); rintro e w' ⟨rfl, ⟨nd, rfl⟩⟩; (try first | exact ⟨rfl, _, World.drewN_drewN _ _ _⟩ | exact ⟨rfl, _, Eq.trans (World.drewN_drewN _ _ _) (congrArg (World.drewN _) (Nat.add_assoc _ _ _))⟩)) | (go_at_call 103; (with_reducible refine (impl_target.cl s j2 m true w.heap.size _ HM.out (HW.out _) B2.out).mono ?_); rintro e w' ⟨rfl, ⟨nd, rfl⟩⟩; (try first | exact ⟨rfl, _, World.drewN_drewN _ _ _⟩ | exact ⟨rfl, _, Eq.trans (World.drewN_drewN _ _ _) (congrArg (World.drewN _) (Nat.add_assoc _ _ _))⟩))))
  go_ret
  exact ⟨by first | rfl | (simp; done) | (simp [*]; done), by repeat (first | exact Below.refl _ _ | apply below_alloc | apply pw_below_drewN | apply below_drew1)⟩
set_option maxHeartbeats 8000000 in
set_option maxRecDepth 100000 in
theorem impl_target.wr1111 (s : ByteArray) (i j1 j2 m : Int) (w : World) (hm : wrap64 ((s.size : Int) - 1) = m) (p0 : 0 ≤ i) (q0 : i < (s.size : Int)) (e46 : (bt s i == 46) = false) (e108 : (bt s i == 108) = false) (h0 : wrap64 (i + 1) = j1) (h1 : wrap64 (i + 2) = j2) (A1 : impl_within.f j1 0 m = some true) (p1 : 0 ≤ j1) (q1 : j1 < (s.size : Int)) (ea : (bt s j1 == 46) = false) (A2 : impl_within.f j2 0 m = some true) (p2 : 0 ≤ j2) (q2 : j2 < (s.size : Int)) (eb : (bt s j2 == 46) = true) (ec : (bt s j1 == bt s i) = false) :
    Calls Tryd.prog 77 #[.string s, .int .i64 i] w fun e w' => e = .returned (.int .i64 j2) ∧ Below w.heap.size w w' := by
  have HM := Aside0.mk hm
  clear hm
  have HW := Aside0.mk (fun nd => impl_target.cellN w s nd)
  have HW0 := Aside0.mk (impl_target.cell0 w s)
  have hmf : ∀ (fn : Fn) (first cap : Array Value) (w : World), (Instr.makeFunc fn first cap).run Tryd.prog w = .ok (.func fn first cap) w := fun _ _ _ _ => rfl
  have x0 := bt_at s i
  replace p0 := eq_true p0
  replace q0 := eq_true q0
  have n46 : (bt s i != 46) = true := by unfold bne; rw [e46]; rfl
  have n108 : (bt s i != 108) = true := by unfold bne; rw [e108]; rfl
  have h0w : IntKind.i64.wrap (i + 1) = j1 := (i64_w _).trans h0
  have h1w : IntKind.i64.wrap (i + 2) = j2 := (i64_w _).trans h1
  have B1 := Aside0.mk A1
  clear A1
  have x1 := bt_at s j1
  replace p1 := eq_true p1
  replace q1 := eq_true q1
  have na : (bt s j1 != 46) = true := by unfold bne; rw [ea]; rfl
  have B2 := Aside0.mk A2
  clear A2
  have x2 := bt_at s j2
  replace p2 := eq_true p2
  replace q2 := eq_true q2
  have nb : (bt s j2 != 46) = false := by unfold bne; rw [eb]; rfl
  have nc : (bt s j1 != bt s i) = true := by unfold bne; rw [ec]; rfl
  go_enter Tryd.func77, Tryd.ntmps77
  go_wp2_with (first | (go_at_call 103; (with_reducible refine (impl_target.cl s j1 m true w.heap.size _ HM.out HW0.out B1.out).mono ?_); rintro e w' ⟨rfl, ⟨nd, rfl⟩⟩; (try first | exact ⟨rfl, _, World.drewN_drewN _ _ _⟩ | exact ⟨rfl, _, Eq.trans (World.drewN_drewN _ _ _) (congrArg (World.drewN _) (Nat.add_assoc _ _ _))⟩)) | (go_at_call 103; (with_reducible refine (impl_target.cl s j1 m true w.heap.size _ HM.out (HW.out _) B1.out).mono ?_); rintro e w' ⟨rfl, ⟨nd, rfl⟩⟩; (try first | exact ⟨rfl, _, World.drewN_drewN _ _ _⟩ | exact ⟨rfl, _, Eq.trans (World.drewN_drewN _ _ _) (congrArg (World.drewN _) (Nat.add_assoc _ _ _))⟩)) | (go_at_call 103; (with_reducible refine (impl_target.cl s j2 m true w.heap.size _ HM.out HW0.out B2.out).mono ?_); rintro e w' ⟨rfl, ⟨nd, rfl⟩⟩; (try first | exact ⟨rfl, _, World.drewN_drewN _ _ _⟩ | exact ⟨rfl, _, Eq.trans (World.drewN_drewN _ _ _) (congrArg (World.drewN _) (Nat.add_assoc _ _ _))⟩)) | (go_at_call 103; (with_reducible refine (impl_target.cl s j2 m true w.heap.size _ HM.out (HW.out _) B2.out).mono ?_); rintro e w' ⟨rfl, ⟨nd, rfl⟩⟩; (try first | exact ⟨rfl, _, World.drewN_drewN _ _ _⟩ | exact ⟨rfl, _, Eq.trans (World.drewN_drewN _ _ _) (congrArg (World.drewN _) (Nat.add_assoc _ _ _))⟩)))
  repeat (go_quiet (first | (go_at_call 103; (with_reducible refine (impl_target.cl s j1 m true w.heap.size _ HM.out HW0.out B1.out).mono ?_); rintro e w' ⟨rfl, ⟨nd, rfl⟩⟩; (try first | exact ⟨rfl, _, World.drewN_drewN _ _ _⟩ | exact ⟨rfl, _, Eq.trans (World.drewN_drewN _ _ _) (congrArg (World.drewN _) (Nat.add_assoc _ _ _))⟩)) | (go_at_call 103; (with_reducible refine (impl_target.cl s j1 m true w.heap.size _ HM.out (HW.out _) B1.out).mono ?_); rintro e w' ⟨rfl, ⟨nd, rfl⟩⟩; (try first | exact ⟨rfl, _, World.drewN_drewN _ _ _⟩ | exact ⟨rfl, _, Eq.trans (World.drewN_drewN _ _ _) (congrArg (World.drewN _) (Nat.add_assoc _ _ _))⟩)) | (go_at_call 103; (with_reducible refine (impl_target.cl s j2 m true w.heap.size _ HM.out HW0.out B2.out).mono ?_); rintro e w' ⟨rfl, ⟨nd, rfl⟩⟩; (try first | exact ⟨rfl, _, World.drewN_drewN _ _ _⟩ | exact ⟨rfl, _, Eq.trans (World.drewN_drewN _ _ _) (congrArg (World.drewN _) (Nat.add_assoc _ _ _))⟩)) | (go_at_call 103; (with_reducible refine (impl_target.cl s j2 m true w.heap.size _ HM.out (HW.out _) B2.out).mono ?_); rintro e w' ⟨rfl, ⟨nd, rfl⟩⟩; (try first | exact ⟨rfl, _, World.drewN_drewN _ _ _⟩ | exact ⟨rfl, _, Eq.trans (World.drewN_drewN _ _ _) (congrArg (World.drewN _) (Nat.add_assoc _ _ _))⟩))); try go_wp2_with (first | (go_at_call 103; (with_reducible refine (impl_target.cl s j1 m true w.heap.size _ HM.out HW0.out B1.out).mono ?_); rintro e w' ⟨rfl, ⟨nd, rfl⟩⟩; (try first | exact ⟨rfl, _, World.drewN_drewN _ _ _⟩ | exact ⟨rfl, _, Eq.trans (World.drewN_drewN _ _ _) (congrArg (World.drewN _) (Nat.add_assoc _ _ _))⟩)) | (go_at_call 103; (with_reducible refine (impl_target.cl s j1 m true w.heap.size _ HM.out (HW.out _) B1.out).mono ?_); rintro e w' ⟨rfl, ⟨nd, rfl⟩⟩; (try first | exact ⟨rfl, _, World.drewN_drewN _ _ _⟩ | exact ⟨rfl, _, Eq.trans (World.drewN_drewN _ _ _) (congrArg (World.drewN _) (Nat.add_assoc _ _ _))⟩)) | (go_at_call 103; (with_reducible refine (impl_target.cl s j2 m true w.heap.size _ HM.out HW0.out B2.out).mono ?_); rintro e w' ⟨rfl, ⟨nd, rfl⟩⟩; (try first | exact ⟨rfl, _, World.drewN_drewN _ _ _⟩ | exact ⟨rfl, _, Eq.trans (World.drewN_drewN _ _ _) (congrArg (World.drewN _) (Nat.add_assoc _ _ _))⟩)) | (go_at_call 103; (with_reducible refine (impl_target.cl s j2 m true w.heap.size _ HM.out (HW.out _) B2.out).mono ?_); rintro e w' ⟨rfl, ⟨nd, rfl⟩⟩; (try first | exact ⟨rfl, _, World.drewN_drewN _ _ _⟩ | exact ⟨rfl, _, Eq.trans (World.drewN_drewN _ _ _) (congrArg (World.drewN _) (Nat.add_assoc _ _ _))⟩))))
  go_ret
  exact ⟨by first | rfl | (simp; done) | (simp [*]; done), by repeat (first | exact Below.refl _ _ | apply below_alloc | apply pw_below_drewN | apply below_drew1)⟩
set_option maxHeartbeats 8000000 in
set_option maxRecDepth 100000 in
theorem impl_target.wr0000 (s : ByteArray) (i j1 j2 m : Int) (w : World) (hm : wrap64 ((s.size : Int) - 1) = m) (p0 : 0 ≤ i) (q0 : i < (s.size : Int)) (e46 : (bt s i == 46) = false) (e108 : (bt s i == 108) = false) (h0 : wrap64 (i + 1) = j1) (h1 : wrap64 (i + 2) = j2) (A1 : impl_within.f j1 0 m = some false) (A2 : impl_within.f j2 0 m = some false) :
    Calls Tryd.prog 77 #[.string s, .int .i64 i] w fun e w' => e = .returned (.int .i64 (-1)) ∧ Below w.heap.size w w' := by
  have HM := Aside0.mk hm
  clear hm
  have HW := Aside0.mk (fun nd => impl_target.cellN w s nd)
  have HW0 := Aside0.mk (impl_target.cell0 w s)
  have hmf : ∀ (fn : Fn) (first cap : Array Value) (w : World), (Instr.makeFunc fn first cap).run Tryd.prog w = .ok (.func fn first cap) w := fun _ _ _ _ => rfl
  have x0 := bt_at s i
  replace p0 := eq_true p0
  replace q0 := eq_true q0
  have n46 : (bt s i != 46) = true := by unfold bne; rw [e46]; rfl
  have n108 : (bt s i != 108) = true := by unfold bne; rw [e108]; rfl
  have h0w : IntKind.i64.wrap (i + 1) = j1 := (i64_w _).trans h0
  have h1w : IntKind.i64.wrap (i + 2) = j2 := (i64_w _).trans h1
  have B1 := Aside0.mk A1
  clear A1
  have B2 := Aside0.mk A2
  clear A2
  go_enter Tryd.func77, Tryd.ntmps77
  go_wp2_with (first | (go_at_call 103; (with_reducible refine (impl_target.cl s j1 m false w.heap.size _ HM.out HW0.out B1.out).mono ?_); rintro e w' ⟨rfl, ⟨nd, rfl⟩⟩; (try first | exact ⟨rfl, _, World.drewN_drewN _ _ _⟩ | exact ⟨rfl, _, Eq.trans (World.drewN_drewN _ _ _) (congrArg (World.drewN _) (Nat.add_assoc _ _ _))⟩)) | (go_at_call 103; (with_reducible refine (impl_target.cl s j1 m false w.heap.size _ HM.out (HW.out _) B1.out).mono ?_); rintro e w' ⟨rfl, ⟨nd, rfl⟩⟩; (try first | exact ⟨rfl, _, World.drewN_drewN _ _ _⟩ | exact ⟨rfl, _, Eq.trans (World.drewN_drewN _ _ _) (congrArg (World.drewN _) (Nat.add_assoc _ _ _))⟩)) | (go_at_call 103; (with_reducible refine (impl_target.cl s j2 m false w.heap.size _ HM.out HW0.out B2.out).mono ?_); rintro e w' ⟨rfl, ⟨nd, rfl⟩⟩; (try first | exact ⟨rfl, _, World.drewN_drewN _ _ _⟩ | exact ⟨rfl, _, Eq.trans (World.drewN_drewN _ _ _) (congrArg (World.drewN _) (Nat.add_assoc _ _ _))⟩)) | (go_at_call 103; (with_reducible refine (impl_target.cl s j2 m false w.heap.size _ HM.out (HW.out _) B2.out).mono ?_); rintro e w' ⟨rfl, ⟨nd, rfl⟩⟩; (try first | exact ⟨rfl, _, World.drewN_drewN _ _ _⟩ | exact ⟨rfl, _, Eq.trans (World.drewN_drewN _ _ _) (congrArg (World.drewN _) (Nat.add_assoc _ _ _))⟩)))
  repeat (go_quiet (first | (go_at_call 103; (with_reducible refine (impl_target.cl s j1 m false w.heap.size _ HM.out HW0.out B1.out).mono ?_); rintro e w' ⟨rfl, ⟨nd, rfl⟩⟩; (try first | exact ⟨rfl, _, World.drewN_drewN _ _ _⟩ | exact ⟨rfl, _, Eq.trans (World.drewN_drewN _ _ _) (congrArg (World.drewN _) (Nat.add_assoc _ _ _))⟩)) | (go_at_call 103; (with_reducible refine (impl_target.cl s j1 m false w.heap.size _ HM.out (HW.out _) B1.out).mono ?_); rintro e w' ⟨rfl, ⟨nd, rfl⟩⟩; (try first | exact ⟨rfl, _, World.drewN_drewN _ _ _⟩ | exact ⟨rfl, _, Eq.trans (World.drewN_drewN _ _ _) (congrArg (World.drewN _) (Nat.add_assoc _ _ _))⟩)) | (go_at_call 103; (with_reducible refine (impl_target.cl s j2 m false w.heap.size _ HM.out HW0.out B2.out).mono ?_); rintro e w' ⟨rfl, ⟨nd, rfl⟩⟩; (try first | exact ⟨rfl, _, World.drewN_drewN _ _ _⟩ | exact ⟨rfl, _, Eq.trans (World.drewN_drewN _ _ _) (congrArg (World.drewN _) (Nat.add_assoc _ _ _))⟩)) | (go_at_call 103; (with_reducible refine (impl_target.cl s j2 m false w.heap.size _ HM.out (HW.out _) B2.out).mono ?_); rintro e w' ⟨rfl, ⟨nd, rfl⟩⟩; (try first | exact ⟨rfl, _, World.drewN_drewN _ _ _⟩ | exact ⟨rfl, _, Eq.trans (World.drewN_drewN _ _ _) (congrArg (World.drewN _) (Nat.add_assoc _ _ _))⟩))); try go_wp2_with (first | (go_at_call 103; (with_reducible refine (impl_target.cl s j1 m false w.heap.size _ HM.out HW0.out B1.out).mono ?_); rintro e w' ⟨rfl, ⟨nd, rfl⟩⟩; (try first | exact ⟨rfl, _, World.drewN_drewN _ _ _⟩ | exact ⟨rfl, _, Eq.trans (World.drewN_drewN _ _ _) (congrArg (World.drewN _) (Nat.add_assoc _ _ _))⟩)) | (go_at_call 103; (with_reducible refine (impl_target.cl s j1 m false w.heap.size _ HM.out (HW.out _) B1.out).mono ?_); rintro e w' ⟨rfl, ⟨nd, rfl⟩⟩; (try first | exact ⟨rfl, _, World.drewN_drewN _ _ _⟩ | exact ⟨rfl, _, Eq.trans (World.drewN_drewN _ _ _) (congrArg (World.drewN _) (Nat.add_assoc _ _ _))⟩)) | (go_at_call 103; (with_reducible refine (impl_target.cl s j2 m false w.heap.size _ HM.out HW0.out B2.out).mono ?_); rintro e w' ⟨rfl, ⟨nd, rfl⟩⟩; (try first | exact ⟨rfl, _, World.drewN_drewN _ _ _⟩ | exact ⟨rfl, _, Eq.trans (World.drewN_drewN _ _ _) (congrArg (World.drewN _) (Nat.add_assoc _ _ _))⟩)) | (go_at_call 103; (with_reducible refine (impl_target.cl s j2 m false w.heap.size _ HM.out (HW.out _) B2.out).mono ?_); rintro e w' ⟨rfl, ⟨nd, rfl⟩⟩; (try first | exact ⟨rfl, _, World.drewN_drewN _ _ _⟩ | exact ⟨rfl, _, Eq.trans (World.drewN_drewN _ _ _) (congrArg (World.drewN _) (Nat.add_assoc _ _ _))⟩))))
  go_ret
  exact ⟨by first | rfl | (simp; done) | (simp [*]; done), by repeat (first | exact Below.refl _ _ | apply below_alloc | apply pw_below_drewN | apply below_drew1)⟩
set_option maxHeartbeats 8000000 in
set_option maxRecDepth 100000 in
theorem impl_target.wl1 (s : ByteArray) (i j1 j2 m : Int) (w : World) (hm : wrap64 ((s.size : Int) - 1) = m) (p0 : 0 ≤ i) (q0 : i < (s.size : Int)) (e46 : (bt s i == 46) = false) (e108 : (bt s i == 108) = true) (h0 : wrap64 (i + -1) = j1) (h1 : wrap64 (i + -2) = j2) (h2 : wrap64 (i - 1) = j1) (h3 : wrap64 (i - 2) = j2) (A1 : impl_within.f j1 0 m = some true) (p1 : 0 ≤ j1) (q1 : j1 < (s.size : Int)) (ea : (bt s j1 == 46) = true) :
    Calls Tryd.prog 77 #[.string s, .int .i64 i] w fun e w' => e = .returned (.int .i64 j1) ∧ Below w.heap.size w w' := by
  have HM := Aside0.mk hm
  clear hm
  have HW := Aside0.mk (fun nd => impl_target.cellN w s nd)
  have HW0 := Aside0.mk (impl_target.cell0 w s)
  have hmf : ∀ (fn : Fn) (first cap : Array Value) (w : World), (Instr.makeFunc fn first cap).run Tryd.prog w = .ok (.func fn first cap) w := fun _ _ _ _ => rfl
  have x0 := bt_at s i
  replace p0 := eq_true p0
  replace q0 := eq_true q0
  have n46 : (bt s i != 46) = true := by unfold bne; rw [e46]; rfl
  have n108 : (bt s i != 108) = false := by unfold bne; rw [e108]; rfl
  have h0w : IntKind.i64.wrap (i + -1) = j1 := (i64_w _).trans h0
  have h1w : IntKind.i64.wrap (i + -2) = j2 := (i64_w _).trans h1
  have h2w : IntKind.i64.wrap (i - 1) = j1 := (i64_w _).trans h2
  have h3w : IntKind.i64.wrap (i - 2) = j2 := (i64_w _).trans h3
  have B1 := Aside0.mk A1
  clear A1
  have x1 := bt_at s j1
  replace p1 := eq_true p1
  replace q1 := eq_true q1
  have na : (bt s j1 != 46) = false := by unfold bne; rw [ea]; rfl
  go_enter Tryd.func77, Tryd.ntmps77
  go_wp2_with (first | (go_at_call 103; (with_reducible refine (impl_target.cl s j1 m true w.heap.size _ HM.out HW0.out B1.out).mono ?_); rintro e w' ⟨rfl, ⟨nd, rfl⟩⟩; (try first | exact ⟨rfl, _, World.drewN_drewN _ _ _⟩ | exact ⟨rfl, _, Eq.trans (World.drewN_drewN _ _ _) (congrArg (World.drewN _) (Nat.add_assoc _ _ _))⟩)) | (go_at_call 103; (with_reducible refine (impl_target.cl s j1 m true w.heap.size _ HM.out (HW.out _) B1.out).mono ?_); rintro e w' ⟨rfl, ⟨nd, rfl⟩⟩; (try first | exact ⟨rfl, _, World.drewN_drewN _ _ _⟩ | exact ⟨rfl, _, Eq.trans (World.drewN_drewN _ _ _) (congrArg (World.drewN _) (Nat.add_assoc _ _ _))⟩)))
  repeat (go_quiet (first | (go_at_call 103; (with_reducible refine (impl_target.cl s j1 m true w.heap.size _ HM.out HW0.out B1.out).mono ?_); rintro e w' ⟨rfl, ⟨nd, rfl⟩⟩; (try first | exact ⟨rfl, _, World.drewN_drewN _ _ _⟩ | exact ⟨rfl, _, Eq.trans (World.drewN_drewN _ _ _) (congrArg (World.drewN _) (Nat.add_assoc _ _ _))⟩)) | (go_at_call 103; (with_reducible refine (impl_target.cl s j1 m true w.heap.size _ HM.out (HW.out _) B1.out).mono ?_); rintro e w' ⟨rfl, ⟨nd, rfl⟩⟩; (try first | exact ⟨rfl, _, World.drewN_drewN _ _ _⟩ | exact ⟨rfl, _, Eq.trans (World.drewN_drewN _ _ _) (congrArg (World.drewN _) (Nat.add_assoc _ _ _))⟩))); try go_wp2_with (first | (go_at_call 103; (with_reducible refine (impl_target.cl s j1 m true w.heap.size _ HM.out HW0.out B1.out).mono ?_); rintro e w' ⟨rfl, ⟨nd, rfl⟩⟩; (try first | exact ⟨rfl, _, World.drewN_drewN _ _ _⟩ | exact ⟨rfl, _, Eq.trans (World.drewN_drewN _ _ _) (congrArg (World.drewN _) (Nat.add_assoc _ _ _))⟩)) | (go_at_call 103; (with_reducible refine (impl_target.cl s j1 m true w.heap.size _ HM.out (HW.out _) B1.out).mono ?_); rintro e w' ⟨rfl, ⟨nd, rfl⟩⟩; (try first | exact ⟨rfl, _, World.drewN_drewN _ _ _⟩ | exact ⟨rfl, _, Eq.trans (World.drewN_drewN _ _ _) (congrArg (World.drewN _) (Nat.add_assoc _ _ _))⟩))))
  go_ret
  exact ⟨by first | rfl | (simp; done) | (simp [*]; done), by repeat (first | exact Below.refl _ _ | apply below_alloc | apply pw_below_drewN | apply below_drew1)⟩
set_option maxHeartbeats 8000000 in
set_option maxRecDepth 100000 in
theorem impl_target.wl1000 (s : ByteArray) (i j1 j2 m : Int) (w : World) (hm : wrap64 ((s.size : Int) - 1) = m) (p0 : 0 ≤ i) (q0 : i < (s.size : Int)) (e46 : (bt s i == 46) = false) (e108 : (bt s i == 108) = true) (h0 : wrap64 (i + -1) = j1) (h1 : wrap64 (i + -2) = j2) (h2 : wrap64 (i - 1) = j1) (h3 : wrap64 (i - 2) = j2) (A1 : impl_within.f j1 0 m = some true) (p1 : 0 ≤ j1) (q1 : j1 < (s.size : Int)) (ea : (bt s j1 == 46) = false) (A2 : impl_within.f j2 0 m = some false) :
    Calls Tryd.prog 77 #[.string s, .int .i64 i] w fun e w' => e = .returned (.int .i64 (-1)) ∧ Below w.heap.size w w' := by
  have HM := Aside0.mk hm
  clear hm
  have HW := Aside0.mk (fun nd => impl_target.cellN w s nd)
  have HW0 := Aside0.mk (impl_target.cell0 w s)
  have hmf : ∀ (fn : Fn) (first cap : Array Value) (w : World), (Instr.makeFunc fn first cap).run Tryd.prog w = .ok (.func fn first cap) w := fun _ _ _ _ => rfl
  have x0 := bt_at s i
  replace p0 := eq_true p0
  replace q0 := eq_true q0
  have n46 : (bt s i != 46) = true := by unfold bne; rw [e46]; rfl
  have n108 : (bt s i != 108) = false := by unfold bne; rw [e108]; rfl
  have h0w : IntKind.i64.wrap (i + -1) = j1 := (i64_w _).trans h0
  have h1w : IntKind.i64.wrap (i + -2) = j2 := (i64_w _).trans h1
  have h2w : IntKind.i64.wrap (i - 1) = j1 := (i64_w _).trans h2
  have h3w : IntKind.i64.wrap (i - 2) = j2 := (i64_w _).trans h3
  have B1 := Aside0.mk A1
  clear A1
  have x1 := bt_at s j1
  replace p1 := eq_true p1
  replace q1 := eq_true q1
  have na : (bt s j1 != 46) = true := by unfold bne; rw [ea]; rfl
  have B2 := Aside0.mk A2
  clear A2
  go_enter Tryd.func77, Tryd.ntmps77
  go_wp2_with (first | (go_at_call 103; (with_reducible refine (impl_target.cl s j1 m true w.heap.size _ HM.out HW0.out B1.out).mono ?_); rintro e w' ⟨rfl, ⟨nd, rfl⟩⟩; (try first | exact ⟨rfl, _, World.drewN_drewN _ _ _⟩ | exact ⟨rfl, _, Eq.trans (World.drewN_drewN _ _ _) (congrArg (World.drewN _) (Nat.add_assoc _ _ _))⟩)) | (go_at_call 103; (with_reducible refine (impl_target.cl s j1 m true w.heap.size _ HM.out (HW.out _) B1.out).mono ?_); rintro e w' ⟨rfl, ⟨nd, rfl⟩⟩; (try first | exact ⟨rfl, _, World.drewN_drewN _ _ _⟩ | exact ⟨rfl, _, Eq.trans (World.drewN_drewN _ _ _) (congrArg (World.drewN _) (Nat.add_assoc _ _ _))⟩)) | (go_at_call 103; (with_reducible refine (impl_target.cl s j2 m false w.heap.size _ HM.out HW0.out B2.out).mono ?_); rintro e w' ⟨rfl, ⟨nd, rfl⟩⟩; (try first | exact ⟨rfl, _, World.drewN_drewN _ _ _⟩ | exact ⟨rfl, _, Eq.trans (World.drewN_drewN _ _ _) (congrArg (World.drewN _) (Nat.add_assoc _ _ _))⟩)) | (go_at_call 103; (with_reducible refine (impl_target.cl s j2 m false w.heap.size _ HM.out (HW.out _) B2.out).mono ?_); rintro e w' ⟨rfl, ⟨nd, rfl⟩⟩; (try first | exact ⟨rfl, _, World.drewN_drewN _ _ _⟩ | exact ⟨rfl, _, Eq.trans (World.drewN_drewN _ _ _) (congrArg (World.drewN _) (Nat.add_assoc _ _ _))⟩)))
  repeat (go_quiet (first | (go_at_call 103; (with_reducible refine (impl_target.cl s j1 m true w.heap.size _ HM.out HW0.out B1.out).mono ?_); rintro e w' ⟨rfl, ⟨nd, rfl⟩⟩; (try first | exact ⟨rfl, _, World.drewN_drewN _ _ _⟩ | exact ⟨rfl, _, Eq.trans (World.drewN_drewN _ _ _) (congrArg (World.drewN _) (Nat.add_assoc _ _ _))⟩)) | (go_at_call 103; (with_reducible refine (impl_target.cl s j1 m true w.heap.size _ HM.out (HW.out _) B1.out).mono ?_); rintro e w' ⟨rfl, ⟨nd, rfl⟩⟩; (try first | exact ⟨rfl, _, World.drewN_drewN _ _ _⟩ | exact ⟨rfl, _, Eq.trans (World.drewN_drewN _ _ _) (congrArg (World.drewN _) (Nat.add_assoc _ _ _))⟩)) | (go_at_call 103; (with_reducible refine (impl_target.cl s j2 m false w.heap.size _ HM.out HW0.out B2.out).mono ?_); rintro e w' ⟨rfl, ⟨nd, rfl⟩⟩; (try first | exact ⟨rfl, _, World.drewN_drewN _ _ _⟩ | exact ⟨rfl, _, Eq.trans (World.drewN_drewN _ _ _) (congrArg (World.drewN _) (Nat.add_assoc _ _ _))⟩)) | (go_at_call 103; (with_reducible refine (impl_target.cl s j2 m false w.heap.size _ HM.out (HW.out _) B2.out).mono ?_); rintro e w' ⟨rfl, ⟨nd, rfl⟩⟩; (try first | exact ⟨rfl, _, World.drewN_drewN _ _ _⟩ | exact ⟨rfl, _, Eq.trans (World.drewN_drewN _ _ _) (congrArg (World.drewN _) (Nat.add_assoc _ _ _))⟩))); try go_wp2_with (first | (go_at_call 103; (with_reducible refine (impl_target.cl s j1 m true w.heap.size _ HM.out HW0.out B1.out).mono ?_); rintro e w' ⟨rfl, ⟨nd, rfl⟩⟩; (try first | exact ⟨rfl, _, World.drewN_drewN _ _ _⟩ | exact ⟨rfl, _, Eq.trans (World.drewN_drewN _ _ _) (congrArg (World.drewN _) (Nat.add_assoc _ _ _))⟩)) | (go_at_call 103; (with_reducible refine (impl_target.cl s j1 m true w.heap.size _ HM.out (HW.out _) B1.out).mono ?_); rintro e w' ⟨rfl, ⟨nd, rfl⟩⟩; (try first | exact ⟨rfl, _, World.drewN_drewN _ _ _⟩ | exact ⟨rfl, _, Eq.trans (World.drewN_drewN _ _ _) (congrArg (World.drewN _) (Nat.add_assoc _ _ _))⟩)) | (go_at_call 103; (with_reducible refine (impl_target.cl s j2 m false w.heap.size _ HM.out HW0.out B2.out).mono ?_); rintro e w' ⟨rfl, ⟨nd, rfl⟩⟩; (try first | exact ⟨rfl, _, World.drewN_drewN _ _ _⟩ | exact ⟨rfl, _, Eq.trans (World.drewN_drewN _ _ _) (congrArg (World.drewN _) (Nat.add_assoc _ _ _))⟩)) | (go_at_call 103; (with_reducible refine (impl_target.cl s j2 m false w.heap.size _ HM.out (HW.out _) B2.out).mono ?_); rintro e w' ⟨rfl, ⟨nd, rfl⟩⟩; (try first | exact ⟨rfl, _, World.drewN_drewN _ _ _⟩ | exact ⟨rfl, _, Eq.trans (World.drewN_drewN _ _ _) (congrArg (World.drewN _) (Nat.add_assoc _ _ _))⟩))))
  go_ret
  exact ⟨by first | rfl | (simp; done) | (simp [*]; done), by repeat (first | exact Below.refl _ _ | apply below_alloc | apply pw_below_drewN | apply below_drew1)⟩
set_option maxHeartbeats 8000000 in
set_option maxRecDepth 100000 in
theorem impl_target.wl1100 (s : ByteArray) (i j1 j2 m : Int) (w : World) (hm : wrap64 ((s.size : Int) - 1) = m) (p0 : 0 ≤ i) (q0 : i < (s.size : Int)) (e46 : (bt s i == 46) = false) (e108 : (bt s i == 108) = true) (h0 : wrap64 (i + -1) = j1) (h1 : wrap64 (i + -2) = j2) (h2 : wrap64 (i - 1) = j1) (h3 : wrap64 (i - 2) = j2) (A1 : impl_within.f j1 0 m = some true) (p1 : 0 ≤ j1) (q1 : j1 < (s.size : Int)) (ea : (bt s j1 == 46) = false) (A2 : impl_within.f j2 0 m = some true) (p2 : 0 ≤ j2) (q2 : j2 < (s.size : Int)) (eb : (bt s j2 == 46) = false) :
    Calls Tryd.prog 77 #[.string s, .int .i64 i] w fun e w' => e = .returned (.int .i64 (-1)) ∧ Below w.heap.size w w' := by
  have HM := Aside0.mk hm
  clear hm
  have HW := Aside0.mk (fun nd => impl_target.cellN w s nd)
  have HW0 := Aside0.mk (impl_target.cell0 w s)
  have hmf : ∀ (fn : Fn) (first cap : Array Value) (w : World), (Instr.makeFunc fn first cap).run Tryd.prog w = .ok (.func fn first cap) w := fun _ _ _ _ => rfl
  have x0 := bt_at s i
  replace p0 := eq_true p0
  replace q0 := eq_true q0
  have n46 : (bt s i != 46) = true := by unfold bne; rw [e46]; rfl
  have n108 : (bt s i != 108) = false := by unfold bne; rw [e108]; rfl
  have h0w : IntKind.i64.wrap (i + -1) = j1 := (i64_w _).trans h0
  have h1w : IntKind.i64.wrap (i + -2) = j2 := (i64_w _).trans h1
  have h2w : IntKind.i64.wrap (i - 1) = j1 := (i64_w _).trans h2
  have h3w : IntKind.i64.wrap (i - 2) = j2 := (i64_w _).trans h3
  have B1 := Aside0.mk A1
  clear A1
  have x1 := bt_at s j1
  replace p1 := eq_true p1
  replace q1 := eq_true q1
  have na : (bt s j1 != 46) = true := by unfold bne; rw [ea]; rfl
  have B2 := Aside0.mk A2
  clear A2
  have x2 := bt_at s j2
  replace p2 := eq_true p2
  replace q2 := eq_true q2
  have nb : (bt s j2 != 46) = true := by unfold bne; rw [eb]; rfl
  go_enter Tryd.func77, Tryd.ntmps77
  go_wp2_with (first | (go_at_call 103; (with_reducible refine (impl_target.cl s j1 m true w.heap.size _ HM.out HW0.out B1.out).mono ?_); rintro e w' ⟨rfl, ⟨nd, rfl⟩⟩; (try first | exact ⟨rfl, _, World.drewN_drewN _ _ _⟩ | exact ⟨rfl, _, Eq.trans (World.drewN_drewN _ _ _) (congrArg (World.drewN _) (Nat.add_assoc _ _ _))⟩)) | (go_at_call 103; (with_reducible refine (impl_target.cl s j1 m true w.heap.size _ HM.out (HW.out _) B1.out).mono ?_); rintro e w' ⟨rfl, ⟨nd, rfl⟩⟩; (try first | exact ⟨rfl, _, World.drewN_drewN _ _ _⟩ | exact ⟨rfl, _, Eq.trans (World.drewN_drewN _ _ _) (congrArg (World.drewN _) (Nat.add_assoc _ _ _))⟩)) | (go_at_call 103; (with_reducible refine (impl_target.cl s j2 m true w.heap.size _ HM.out HW0.out B2.out).mono ?_); rintro e w' ⟨rfl, ⟨nd, rfl⟩⟩; (try first | exact ⟨rfl, _, World.drewN_drewN _ _ _⟩ | exact ⟨rfl, _, Eq.trans (World.drewN_drewN _ _ _) (congrArg (World.drewN _) (Nat.add_assoc _ _ _))⟩)) | (go_at_call 103; (with_reducible refine (impl_target.cl s j2 m true w.heap.size _ HM.out (HW.out _) B2.out).mono ?_); rintro e w' ⟨rfl, ⟨nd, rfl⟩⟩; (try first | exact ⟨rfl, _, World.drewN_drewN _ _ _⟩ | exact ⟨rfl, _, Eq.trans (World.drewN_drewN _ _ _) (congrArg (World.drewN _) (Nat.add_assoc _ _ _))⟩)))
  repeat (go_quiet (first | (go_at_call 103; (with_reducible refine (impl_target.cl s j1 m true w.heap.size _ HM.out HW0.out B1.out).mono ?_); rintro e w' ⟨rfl, ⟨nd, rfl⟩⟩; (try first | exact ⟨rfl, _, World.drewN_drewN _ _ _⟩ | exact ⟨rfl, _, Eq.trans (World.drewN_drewN _ _ _) (congrArg (World.drewN _) (Nat.add_assoc _ _ _))⟩)) | (go_at_call 103; (with_reducible refine (impl_target.cl s j1 m true w.heap.size _ HM.out (HW.out _) B1.out).mono ?_); rintro e w' ⟨rfl, ⟨nd, rfl⟩⟩; (try first | exact ⟨rfl, _, World.drewN_drewN _ _ _⟩ | exact ⟨rfl, _, Eq.trans (World.drewN_drewN _ _ _) (congrArg (World.drewN _) (Nat.add_assoc _ _ _))⟩)) | (go_at_call 103; (with_reducible refine (impl_target.cl s j2 m true w.heap.size _ HM.out HW0.out B2.out).mono ?_); rintro e w' ⟨rfl, ⟨nd, rfl⟩⟩; (try first | exact ⟨rfl, _, World.drewN_drewN _ _ _⟩ | exact ⟨rfl, _, Eq.trans (World.drewN_drewN _ _ _) (congrArg (World.drewN _) (Nat.add_assoc _ _ _))⟩)) | (go_at_call 103; (with_reducible refine (impl_target.cl s j2 m true w.heap.size _ HM.out (HW.out _) B2.out).mono ?_); rintro e w' ⟨rfl, ⟨nd, rfl⟩⟩; (try first | exact ⟨rfl, _, World.drewN_drewN _ _ _⟩ | exact ⟨rfl, _, Eq.trans (World.drewN_drewN _ _ _) (congrArg (World.drewN _) (Nat.add_assoc _ _ _))⟩))); try go_wp2_with (first | (go_at_call 103; (with_reducible refine (impl_target.cl s j1 m true w.heap.size _ HM.out HW0.out B1.out).mono ?_); rintro e w' ⟨rfl, ⟨nd, rfl⟩⟩; (try first | exact ⟨rfl, _, World.drewN_drewN _ _ _⟩ | exact ⟨rfl, _, Eq.trans (World.drewN_drewN _ _ _) (congrArg (World.drewN _) (Nat.add_assoc _ _ _))⟩)) | (go_at_call 103; (with_reducible refine (impl_target.cl s j1 m true w.heap.size _ HM.out (HW.out _) B1.out).mono ?_); rintro e w' ⟨rfl, ⟨nd, rfl⟩⟩; (try first | exact ⟨rfl, _, World.drewN_drewN _ _ _⟩ | exact ⟨rfl, _, Eq.trans (World.drewN_drewN _ _ _) (congrArg (World.drewN _) (Nat.add_assoc _ _ _))⟩)) | (go_at_call 103; (with_reducible refine (impl_target.cl s j2 m true w.heap.size _ HM.out HW0.out B2.out).mono ?_); rintro e w' ⟨rfl, ⟨nd, rfl⟩⟩; (try first | exact ⟨rfl, _, World.drewN_drewN _ _ _⟩ | exact ⟨rfl, _, Eq.trans (World.drewN_drewN _ _ _) (congrArg (World.drewN _) (Nat.add_assoc _ _ _))⟩)) | (go_at_call 103; (with_reducible refine (impl_target.cl s j2 m true w.heap.size _ HM.out (HW.out _) B2.out).mono ?_); rintro e w' ⟨rfl, ⟨nd, rfl⟩⟩; (try first | exact ⟨rfl, _, World.drewN_drewN _ _ _⟩ | exact ⟨rfl, _, Eq.trans (World.drewN_drewN _ _ _) (congrArg (World.drewN _) (Nat.add_assoc _ _ _))⟩))))
  go_ret
  exact ⟨by first | rfl | (simp; done) | (simp [*]; done), by repeat (first | exact Below.refl _ _ | apply below_alloc | apply pw_below_drewN | apply below_drew1)⟩
set_option maxHeartbeats 8000000 in
set_option maxRecDepth 100000 in
theorem impl_target.wl1110 (s : ByteArray) (i j1 j2 m : Int) (w : World) (hm : wrap64 ((s.size : Int) - 1) = m) (p0 : 0 ≤ i) (q0 : i < (s.size : Int)) (e46 : (bt s i == 46) = false) (e108 : (bt s i == 108) = true) (h0 : wrap64 (i + -1) = j1) (h1 : wrap64 (i + -2) = j2) (h2 : wrap64 (i - 1) = j1) (h3 : wrap64 (i - 2) = j2) (A1 : impl_within.f j1 0 m = some true) (p1 : 0 ≤ j1) (q1 : j1 < (s.size : Int)) (ea : (bt s j1 == 46) = false) (A2 : impl_within.f j2 0 m = some true) (p2 : 0 ≤ j2) (q2 : j2 < (s.size : Int)) (eb : (bt s j2 == 46) = true) (ec : (bt s j1 == bt s i) = true) :
    Calls Tryd.prog 77 #[.string s, .int .i64 i] w fun e w' => e = .returned (.int .i64 (-1)) ∧ Below w.heap.size w w' := by
  have HM := Aside0.mk hm
  clear hm
  have HW := Aside0.mk (fun nd => impl_target.cellN w s nd)
  have HW0 := Aside0.mk (impl_target.cell0 w s)
  have hmf : ∀ (fn : Fn) (first cap : Array Value) (w : World), (Instr.makeFunc fn first cap).run Tryd.prog w = .ok (.func fn first cap) w := fun _ _ _ _ => rfl
  have x0 := bt_at s i
  replace p0 := eq_true p0
  replace q0 := eq_true q0
  have n46 : (bt s i != 46) = true := by unfold bne; rw [e46]; rfl
  have n108 : (bt s i != 108) = false := by unfold bne; rw [e108]; rfl
  have h0w : IntKind.i64.wrap (i + -1) = j1 := (i64_w _).trans h0
  have h1w : IntKind.i64.wrap (i + -2) = j2 := (i64_w _).trans h1
  have h2w : IntKind.i64.wrap (i - 1) = j1 := (i64_w _).trans h2
  have h3w : IntKind.i64.wrap (i - 2) = j2 := (i64_w _).trans h3
  have B1 := Aside0.mk A1
  clear A1
  have x1 := bt_at s j1
  replace p1 := eq_true p1
  replace q1 := eq_true q1
  have na : (bt s j1 != 46) = true := by unfold bne; rw [ea]; rfl
  have B2 := Aside0.mk A2
  clear A2
  have x2 := bt_at s j2
  replace p2 := eq_true p2
  replace q2 := eq_true q2
  have nb : (bt s j2 != 46) = false := by unfold bne; rw [eb]; rfl
  have nc : (bt s j1 != bt s i) = false := by unfold bne; rw [ec]; rfl
  go_enter Tryd.func77, Tryd.ntmps77
  go_wp2_with (first | (go_at_call 103; (with_reducible refine (impl_target.cl s j1 m true w.heap.size _ HM.out HW0.out B1.out).mono ?_); rintro e w' ⟨rfl, ⟨nd, rfl⟩⟩; (try first | exact ⟨rfl, _, World.drewN_drewN _ _ _⟩ | exact ⟨rfl, _, Eq.trans (World.drewN_drewN _ _ _) (congrArg (World.drewN _) (Nat.add_assoc _ _ _))⟩)) | (go_at_call 103; (with_reducible refine (impl_target.cl s j1 m true w.heap.size _ HM.out (HW.out _) B1.out).mono ?_); rintro e w' ⟨rfl, ⟨nd, rfl⟩⟩; (try first | exact ⟨rfl, _, World.drewN_drewN _ _ _⟩ | exact ⟨rfl, _, Eq.trans (World.drewN_drewN _ _ _) (congrArg (World.drewN _) (Nat.add_assoc _ _ _))⟩)) | (go_at_call 103; (with_reducible refine (impl_target.cl s j2 m true w.heap.size _ HM.out HW0.out B2.out).mono ?_); rintro e w' ⟨rfl, ⟨nd, rfl⟩⟩; (try first | exact ⟨rfl, _, World.drewN_drewN _ _ _⟩ | exact ⟨rfl, _, Eq.trans (World.drewN_drewN _ _ _) (congrArg (World.drewN _) (Nat.add_assoc _ _ _))⟩)) | (go_at_call 103; (with_reducible refine (impl_target.cl s j2 m true w.heap.size _ HM.out (HW.out _) B2.out).mono ?_); rintro e w' ⟨rfl, ⟨nd, rfl⟩⟩; (try first | exact ⟨rfl, _, World.drewN_drewN _ _ _⟩ | exact ⟨rfl, _, Eq.trans (World.drewN_drewN _ _ _) (congrArg (World.drewN _) (Nat.add_assoc _ _ _))⟩)))
  repeat (go_quiet (first | (go_at_call 103; (with_reducible refine (impl_target.cl s j1 m true w.heap.size _ HM.out HW0.out B1.out).mono ?_); rintro e w' ⟨rfl, ⟨nd, rfl⟩⟩; (try first | exact ⟨rfl, _, World.drewN_drewN _ _ _⟩ | exact ⟨rfl, _, Eq.trans (World.drewN_drewN _ _ _) (congrArg (World.drewN _) (Nat.add_assoc _ _ _))⟩)) | (go_at_call 103; (with_reducible refine (impl_target.cl s j1 m true w.heap.size _ HM.out (HW.out _) B1.out).mono ?_); rintro e w' ⟨rfl, ⟨nd, rfl⟩⟩; (try first | exact ⟨rfl, _, World.drewN_drewN _ _ _⟩ | exact ⟨rfl, _, Eq.trans (World.drewN_drewN _ _ _) (congrArg (World.drewN _) (Nat.add_assoc _ _ _))⟩)) | (go_at_call 103; (with_reducible refine (impl_target.cl s j2 m true w.heap.size _ HM.out HW0.out B2.out).mono ?_); rintro e w' ⟨rfl, ⟨nd, rfl⟩⟩; (try first | exact ⟨rfl, _, World.drewN_drewN _ _ _⟩ | exact ⟨rfl, _, Eq.trans (World.drewN_drewN _ _ _) (congrArg (World.drewN _) (Nat.add_assoc _ _ _))⟩)) | (go_at_call 103; (with_reducible refine (impl_target.cl s j2 m true w.heap.size _ HM.out (HW.out _) B2.out).mono ?_); rintro e w' ⟨rfl, ⟨nd, rfl⟩⟩; (try first | exact ⟨rfl, _, World.drewN_drewN _ _ _⟩ | exact ⟨rfl, _, Eq.trans (World.drewN_drewN _ _ _) (congrArg (World.drewN _) (Nat.add_assoc _ _ _))⟩))); try go_wp2_with (first | (go_at_call 103; (with_reducible refine (impl_target.cl s j1 m true w.heap.size _ HM.out HW0.out B1.out).mono ?_); rintro e w' ⟨rfl, ⟨nd, rfl⟩⟩; (try first | exact ⟨rfl, _, World.drewN_drewN _ _ _⟩ | exact ⟨rfl, _, Eq.trans (World.drewN_drewN _ _ _) (congrArg (World.drewN _) (Nat.add_assoc _ _ _))⟩)) | (go_at_call 103; (with_reducible refine (impl_target.cl s j1 m true w.heap.size _ HM.out (HW.out _) B1.out).mono ?_); rintro e w' ⟨rfl, ⟨nd, rfl⟩⟩; (try first | exact ⟨rfl, _, World.drewN_drewN _ _ _⟩ | exact ⟨rfl, _, Eq.trans (World.drewN_drewN _ _ _) (congrArg (World.drewN _) (Nat.add_assoc _ _ _))⟩)) | (go_at_call 103; (with_reducible refine (impl_target.cl s j2 m true w.heap.size _ HM.out HW0.out B2.out).mono ?_); rintro e w' ⟨rfl, ⟨nd, rfl⟩⟩; (try first | exact ⟨rfl, _, World.drewN_drewN _ _ _⟩ | exact ⟨rfl, _, Eq.trans (World.drewN_drewN _ _ _) (congrArg (World.drewN _) (Nat.add_assoc _ _ _))⟩)) | (go_at_call 103; (with_reducible refine (impl_target.cl s j2 m true w.heap.size _ HM.out (HW.out _) B2.out).mono ?_); rintro e w' ⟨rfl, ⟨nd, rfl⟩⟩; (try first | exact ⟨rfl, _, World.drewN_drewN _ _ _⟩ | exact ⟨rfl, _, Eq.trans (World.drewN_drewN _ _ _) (congrArg (World.drewN _) (Nat.add_assoc _ _ _))⟩))))
  go_ret
  exact ⟨by first | rfl | (simp; done) | (simp [*]; done), by repeat (first | exact Below.refl _ _ | apply below_alloc | apply pw_below_drewN | apply below_drew1)⟩
set_option maxHeartbeats 8000000 in
set_option maxRecDepth 100000 in
theorem impl_target.wl1111 (s : ByteArray) (i j1 j2 m : Int) (w : World) (hm : wrap64 ((s.size : Int) - 1) = m) (p0 : 0 ≤ i) (q0 : i < (s.size : Int)) (e46 : (bt s i == 46) = false) (e108 : (bt s i == 108) = true) (h0 : wrap64 (i + -1) = j1) (h1 : wrap64 (i + -2) = j2) (h2 : wrap64 (i - 1) = j1) (h3 : wrap64 (i - 2) = j2) (A1 : impl_within.f j1 0 m = some true) (p1 : 0 ≤ j1) (q1 : j1 < (s.size : Int)) (ea : (bt s j1 == 46) = false) (A2 : impl_within.f j2 0 m = some true) (p2 : 0 ≤ j2) (q2 : j2 < (s.size : Int)) (eb : (bt s j2 == 46) = true) (ec : (bt s j1 == bt s i) = false) :
    Calls Tryd.prog 77 #[.string s, .int .i64 i] w fun e w' => e = .returned (.int .i64 j2) ∧ Below w.heap.size w w' := by
  have HM := Aside0.mk hm
  clear hm
  have HW := Aside0.mk (fun nd => impl_target.cellN w s nd)
  have HW0 := Aside0.mk (impl_target.cell0 w s)
  have hmf : ∀ (fn : Fn) (first cap : Array Value) (w : World), (Instr.makeFunc fn first cap).run Tryd.prog w = .ok (.func fn first cap) w := fun _ _ _ _ => rfl
  have x0 := bt_at s i
  replace p0 := eq_true p0
  replace q0 := eq_true q0
  have n46 : (bt s i != 46) = true := by unfold bne; rw [e46]; rfl
  have n108 : (bt s i != 108) = false := by unfold bne; rw [e108]; rfl
  have h0w : IntKind.i64.wrap (i + -1) = j1 := (i64_w _).trans h0
  have h1w : IntKind.i64.wrap (i + -2) = j2 := (i64_w _).trans h1
  have h2w : IntKind.i64.wrap (i - 1) = j1 := (i64_w _).trans h2
  have h3w : IntKind.i64.wrap (i - 2) = j2 := (i64_w _).trans h3
  have B1 := Aside0.mk A1
  clear A1
  have x1 := bt_at s j1
  replace p1 := eq_true p1
  replace q1 := eq_true q1
  have na : (bt s j1 != 46) = true := by unfold bne; rw [ea]; rfl
  have B2 := Aside0.mk A2
  clear A2
  have x2 := bt_at s j2
  replace p2 := eq_true p2
  replace q2 := eq_true q2
  have nb : (bt s j2 != 46) = false := by unfold bne; rw [eb]; rfl
  have nc : (bt s j1 != bt s i) = true := by unfold bne; rw [ec]; rfl
  go_enter Tryd.func77, Tryd.ntmps77
  go_wp2_with (first | (go_at_call 103; (with_reducible refine (impl_target.cl s j1 m true w.heap.size _ HM.out HW0.out B1.out).mono ?_); rintro e w' ⟨rfl, ⟨nd, rfl⟩⟩; (try first | exact ⟨rfl, _, World.drewN_drewN _ _ _⟩ | exact ⟨rfl, _, Eq.trans (World.drewN_drewN _ _ _) (congrArg (World.drewN _) (Nat.add_assoc _ _ _))⟩)) | (go_at_call 103; (with_reducible refine (impl_target.cl s j1 m true w.heap.size _ HM.out (HW.out _) B1.out).mono ?_); rintro e w' ⟨rfl, ⟨nd, rfl⟩⟩; (try first | exact ⟨rfl, _, World.drewN_drewN _ _ _⟩ | exact ⟨rfl, _, Eq.trans (World.drewN_drewN _ _ _) (congrArg (World.drewN _) (Nat.add_assoc _ _ _))⟩)) | (go_at_call 103; (with_reducible refine (impl_target.cl s j2 m true w.heap.size _ HM.out HW0.out B2.out).mono ?_); rintro e w' ⟨rfl, ⟨nd, rfl⟩⟩; (try first | exact ⟨rfl, _, World.drewN_drewN _ _ _⟩ | exact ⟨rfl, _, Eq.trans (World.drewN_drewN _ _ _) (congrArg (World.drewN _) (Nat.add_assoc _ _ _))⟩)) | (go_at_call 103; (with_reducible refine (impl_target.cl s j2 m true w.heap.size _ HM.out (HW.out _) B2.out).mono ?_); rintro e w' ⟨rfl, ⟨nd, rfl⟩⟩; (try first | exact ⟨rfl, _, World.drewN_drewN _ _ _⟩ | exact ⟨rfl, _, Eq.trans (World.drewN_drewN _ _ _) (congrArg (World.drewN _) (Nat.add_assoc _ _ _))⟩)))
  repeat (go_quiet (first | (go_at_call 103; (with_reducible refine (impl_target.cl s j1 m true w.heap.size _ HM.out HW0.out B1.out).mono ?_); rintro e w' ⟨rfl, ⟨nd, rfl⟩⟩; (try first | exact ⟨rfl, _, World.drewN_drewN _ _ _⟩ | exact ⟨rfl, _, Eq.trans (World.drewN_drewN _ _ _) (congrArg (World.drewN _) (Nat.add_assoc _ _ _))⟩)) | (go_at_call 103; (with_reducible refine (impl_target.cl s j1 m true w.heap.size _ HM.out (HW.out _) B1.out).mono ?_); rintro e w' ⟨rfl, ⟨nd, rfl⟩⟩; (try first | exact ⟨rfl, _, World.drewN_drewN _ _ _⟩ | exact ⟨rfl, _, Eq.trans (World.drewN_drewN _ _ _) (congrArg (World.drewN _) (Nat.add_assoc _ _ _))⟩)) | (go_at_call 103; (with_reducible refine (impl_target.cl s j2 m true w.heap.size _ HM.out HW0.out B2.out).mono ?_); rintro e w' ⟨rfl, ⟨nd, rfl⟩⟩; (try first | exact ⟨rfl, _, World.drewN_drewN _ _ _⟩ | exact ⟨rfl, _, Eq.trans (World.drewN_drewN _ _ _) (congrArg (World.drewN _) (Nat.add_assoc _ _ _))⟩)) | (go_at_call 103; (with_reducible refine (impl_target.cl s j2 m true w.heap.size _ HM.out (HW.out _) B2.out).mono ?_); rintro e w' ⟨rfl, ⟨nd, rfl⟩⟩; (try first | exact ⟨rfl, _, World.drewN_drewN _ _ _⟩ | exact ⟨rfl, _, Eq.trans (World.drewN_drewN _ _ _) (congrArg (World.drewN _) (Nat.add_assoc _ _ _))⟩))); try go_wp2_with (first | (go_at_call 103; (with_reducible refine (impl_target.cl s j1 m true w.heap.size _ HM.out HW0.out B1.out).mono ?_); rintro e w' ⟨rfl, ⟨nd, rfl⟩⟩; (try first | exact ⟨rfl, _, World.drewN_drewN _ _ _⟩ | exact ⟨rfl, _, Eq.trans (World.drewN_drewN _ _ _) (congrArg (World.drewN _) (Nat.add_assoc _ _ _))⟩)) | (go_at_call 103; (with_reducible refine (impl_target.cl s j1 m true w.heap.size _ HM.out (HW.out _) B1.out).mono ?_); rintro e w' ⟨rfl, ⟨nd, rfl⟩⟩; (try first | exact ⟨rfl, _, World.drewN_drewN _ _ _⟩ | exact ⟨rfl, _, Eq.trans (World.drewN_drewN _ _ _) (congrArg (World.drewN _) (Nat.add_assoc _ _ _))⟩)) | (go_at_call 103; (with_reducible refine (impl_target.cl s j2 m true w.heap.size _ HM.out HW0.out B2.out).mono ?_); rintro e w' ⟨rfl, ⟨nd, rfl⟩⟩; (try first | exact ⟨rfl, _, World.drewN_drewN _ _ _⟩ | exact ⟨rfl, _, Eq.trans (World.drewN_drewN _ _ _) (congrArg (World.drewN _) (Nat.add_assoc _ _ _))⟩)) | (go_at_call 103; (with_reducible refine (impl_target.cl s j2 m true w.heap.size _ HM.out (HW.out _) B2.out).mono ?_); rintro e w' ⟨rfl, ⟨nd, rfl⟩⟩; (try first | exact ⟨rfl, _, World.drewN_drewN _ _ _⟩ | exact ⟨rfl, _, Eq.trans (World.drewN_drewN _ _ _) (congrArg (World.drewN _) (Nat.add_assoc _ _ _))⟩))))
  go_ret
  exact ⟨by first | rfl | (simp; done) | (simp [*]; done), by repeat (first | exact Below.refl _ _ | apply below_alloc | apply pw_below_drewN | apply below_drew1)⟩
set_option maxHeartbeats 8000000 in
set_option maxRecDepth 100000 in
theorem impl_target.wl0000 (s : ByteArray) (i j1 j2 m : Int) (w : World) (hm : wrap64 ((s.size : Int) - 1) = m) (p0 : 0 ≤ i) (q0 : i < (s.size : Int)) (e46 : (bt s i == 46) = false) (e108 : (bt s i == 108) = true) (h0 : wrap64 (i + -1) = j1) (h1 : wrap64 (i + -2) = j2) (h2 : wrap64 (i - 1) = j1) (h3 : wrap64 (i - 2) = j2) (A1 : impl_within.f j1 0 m = some false) (A2 : impl_within.f j2 0 m = some false) :
    Calls Tryd.prog 77 #[.string s, .int .i64 i] w fun e w' => e = .returned (.int .i64 (-1)) ∧ Below w.heap.size w w' := by
  have HM := Aside0.mk hm
  clear hm
  have HW := Aside0.mk (fun nd => impl_target.cellN w s nd)
  have HW0 := Aside0.mk (impl_target.cell0 w s)
  have hmf : ∀ (fn : Fn) (first cap : Array Value) (w : World), (Instr.makeFunc fn first cap).run Tryd.prog w = .ok (.func fn first cap) w := fun _ _ _ _ => rfl
  have x0 := bt_at s i
  replace p0 := eq_true p0
  replace q0 := eq_true q0
  have n46 : (bt s i != 46) = true := by unfold bne; rw [e46]; rfl
  have n108 : (bt s i != 108) = false := by unfold bne; rw [e108]; rfl
  have h0w : IntKind.i64.wrap (i + -1) = j1 := (i64_w _).trans h0
  have h1w : IntKind.i64.wrap (i + -2) = j2 := (i64_w _).trans h1
  have h2w : IntKind.i64.wrap (i - 1) = j1 := (i64_w _).trans h2
  have h3w : IntKind.i64.wrap (i - 2) = j2 := (i64_w _).trans h3
  have B1 := Aside0.mk A1
  clear A1
  have B2 := Aside0.mk A2
  clear A2
  go_enter Tryd.func77, Tryd.ntmps77
  go_wp2_with (first | (go_at_call 103; (with_reducible refine (impl_target.cl s j1 m false w.heap.size _ HM.out HW0.out B1.out).mono ?_); rintro e w' ⟨rfl, ⟨nd, rfl⟩⟩; (try first | exact ⟨rfl, _, World.drewN_drewN _ _ _⟩ | exact ⟨rfl, _, Eq.trans (World.drewN_drewN _ _ _) (congrArg (World.drewN _) (Nat.add_assoc _ _ _))⟩)) | (go_at_call 103; (with_reducible refine (impl_target.cl s j1 m false w.heap.size _ HM.out (HW.out _) B1.out).mono ?_); rintro e w' ⟨rfl, ⟨nd, rfl⟩⟩; (try first | exact ⟨rfl, _, World.drewN_drewN _ _ _⟩ | exact ⟨rfl, _, Eq.trans (World.drewN_drewN _ _ _) (congrArg (World.drewN _) (Nat.add_assoc _ _ _))⟩)) | (go_at_call 103; (with_reducible refine (impl_target.cl s j2 m false w.heap.size _ HM.out HW0.out B2.out).mono ?_); rintro e w' ⟨rfl, ⟨nd, rfl⟩⟩; (try first | exact ⟨rfl, _, World.drewN_drewN _ _ _⟩ | exact ⟨rfl, _, Eq.trans (World.drewN_drewN _ _ _) (congrArg (World.drewN _) (Nat.add_assoc _ _ _))⟩)) | (go_at_call 103; (with_reducible refine (impl_target.cl s j2 m false w.heap.size _ HM.out (HW.out _) B2.out).mono ?_); rintro e w' ⟨rfl, ⟨nd, rfl⟩⟩; (try first | exact ⟨rfl, _, World.drewN_drewN _ _ _⟩ | exact ⟨rfl, _, Eq.trans (World.drewN_drewN _ _ _) (congrArg (World.drewN _) (Nat.add_assoc _ _ _))⟩)))
  repeat (go_quiet (first | (go_at_call 103; (with_reducible refine (impl_target.cl s j1 m false w.heap.size _ HM.out HW0.out B1.out).mono ?_); rintro e w' ⟨rfl, ⟨nd, rfl⟩⟩; (try first | exact ⟨rfl, _, World.drewN_drewN _ _ _⟩ | exact ⟨rfl, _, Eq.trans (World.drewN_drewN _ _ _) (congrArg (World.drewN _) (Nat.add_assoc _ _ _))⟩)) | (go_at_call 103; (with_reducible refine (impl_target.cl s j1 m false w.heap.size _ HM.out (HW.out _) B1.out).mono ?_); rintro e w' ⟨rfl, ⟨nd, rfl⟩⟩; (try first | exact ⟨rfl, _, World.drewN_drewN _ _ _⟩ | exact ⟨rfl, _, Eq.trans (World.drewN_drewN _ _ _) (congrArg (World.drewN _) (Nat.add_assoc _ _ _))⟩)) | (go_at_call 103; (with_reducible refine (impl_target.cl s j2 m false w.heap.size _ HM.out HW0.out B2.out).mono ?_); rintro e w' ⟨rfl, ⟨nd, rfl⟩⟩; (try first | exact ⟨rfl, _, World.drewN_drewN _ _ _⟩ | exact ⟨rfl, _, Eq.trans (World.drewN_drewN _ _ _) (congrArg (World.drewN _) (Nat.add_assoc _ _ _))⟩)) | (go_at_call 103; (with_reducible refine (impl_target.cl s j2 m false w.heap.size _ HM.out (HW.out _) B2.out).mono ?_); rintro e w' ⟨rfl, ⟨nd, rfl⟩⟩; (try first | exact ⟨rfl, _, World.drewN_drewN _ _ _⟩ | exact ⟨rfl, _, Eq.trans (World.drewN_drewN _ _ _) (congrArg (World.drewN _) (Nat.add_assoc _ _ _))⟩))); try go_wp2_with (first | (go_at_call 103; (with_reducible refine (impl_target.cl s j1 m false w.heap.size _ HM.out HW0.out B1.out).mono ?_); rintro e w' ⟨rfl, ⟨nd, rfl⟩⟩; (try first | exact ⟨rfl, _, World.drewN_drewN _ _ _⟩ | exact ⟨rfl, _, Eq.trans (World.drewN_drewN _ _ _) (congrArg (World.drewN _) (Nat.add_assoc _ _ _))⟩)) | (go_at_call 103; (with_reducible refine (impl_target.cl s j1 m false w.heap.size _ HM.out (HW.out _) B1.out).mono ?_); rintro e w' ⟨rfl, ⟨nd, rfl⟩⟩; (try first | exact ⟨rfl, _, World.drewN_drewN _ _ _⟩ | exact ⟨rfl, _, Eq.trans (World.drewN_drewN _ _ _) (congrArg (World.drewN _) (Nat.add_assoc _ _ _))⟩)) | (go_at_call 103; (with_reducible refine (impl_target.cl s j2 m false w.heap.size _ HM.out HW0.out B2.out).mono ?_); rintro e w' ⟨rfl, ⟨nd, rfl⟩⟩; (try first | exact ⟨rfl, _, World.drewN_drewN _ _ _⟩ | exact ⟨rfl, _, Eq.trans (World.drewN_drewN _ _ _) (congrArg (World.drewN _) (Nat.add_assoc _ _ _))⟩)) | (go_at_call 103; (with_reducible refine (impl_target.cl s j2 m false w.heap.size _ HM.out (HW.out _) B2.out).mono ?_); rintro e w' ⟨rfl, ⟨nd, rfl⟩⟩; (try first | exact ⟨rfl, _, World.drewN_drewN _ _ _⟩ | exact ⟨rfl, _, Eq.trans (World.drewN_drewN _ _ _) (congrArg (World.drewN _) (Nat.add_assoc _ _ _))⟩))))
  go_ret
  exact ⟨by first | rfl | (simp; done) | (simp [*]; done), by repeat (first | exact Below.refl _ _ | apply below_alloc | apply pw_below_drewN | apply below_drew1)⟩
def impl_target.f (a0 : ByteArray) (a1 : Int) : Option (Int) := if a0.size ≤ 1000 ∧ 0 ≤ a1 ∧ a1 < (a0.size : Int) then (some (frogTo a0 a1)) else none
theorem impl_target.in1 {x m : Int} (h : 0 ≤ x ∧ x ≤ m) : impl_within.f x 0 m = some true := by
  unfold impl_within.f; rw [if_pos h.1]; congr 1; exact decide_eq_true h.2
theorem impl_target.in0 {x m : Int} (h : ¬ (0 ≤ x ∧ x ≤ m)) : impl_within.f x 0 m = some false := by
  unfold impl_within.f
  by_cases c : 0 ≤ x
  · rw [if_pos c]; congr 1; exact decide_eq_false (by omega)
  · rw [if_neg c]
theorem impl_target.bq {x y : Int} (h : x = y) : (x == y) = true := beq_iff_eq.mpr h
theorem impl_target.bn {x y : Int} (h : ¬ x = y) : (x == y) = false := beq_eq_false_iff_ne.mpr h
theorem impl_target.wr {x y : Int} (h : x = y) (h0 : -9223372036854775808 ≤ x) (h1 : x < 9223372036854775808) : wrap64 x = y := by unfold wrap64; omega
theorem impl_target.calls (a0 : ByteArray) (a1 : Int) (r : Int) (w : World) (h : impl_target.f a0 a1 = some r) :
    Calls Tryd.prog 77 #[.string a0, .int .i64 a1] w fun e w' => e = .returned (.int .i64 r) ∧ Below w.heap.size w w' := by
  unfold impl_target.f at h
  by_cases hd : a0.size ≤ 1000 ∧ 0 ≤ a1 ∧ a1 < (a0.size : Int)
  case neg => rw [if_neg hd] at h; cases h
  rw [if_pos hd] at h
  have hr := Option.some.inj h
  clear h
  subst hr
  have hm : wrap64 ((a0.size : Int) - 1) = (a0.size : Int) - 1 := by unfold wrap64; omega
  have h0 : 0 ≤ a1 ∧ a1 < (a0.size : Int) := hd.2
  by_cases h46 : bt a0 a1 = 46
  case pos =>
    have e : frogTo a0 a1 = -1 := by unfold frogTo; rw [if_neg (fun c => c.2 h46)]
    rw [e]
    exact impl_target.wdot a0 a1 0 0 _ w hm h0.1 h0.2 (impl_target.bq h46)
  by_cases h108 : bt a0 a1 = 108
  case pos =>
    have e : frogTo a0 a1 = if (0 ≤ a1 + -1 ∧ a1 + -1 < (a0.size : Int)) ∧ bt a0 (a1 + -1) = 46 then a1 + -1 else if ((0 ≤ a1 + -2 ∧ a1 + -2 < (a0.size : Int)) ∧ bt a0 (a1 + -2) = 46) ∧ ¬ bt a0 (a1 + -1) = bt a0 a1 then a1 + -2 else -1 := by
      unfold frogTo; rw [if_pos ⟨h0, h46⟩]; simp only [if_pos h108]; rfl
    rw [e]
    by_cases c1 : 0 ≤ a1 + -1 ∧ a1 + -1 < (a0.size : Int)
    · by_cases c2 : bt a0 (a1 + -1) = 46
      · rw [if_pos ⟨c1, c2⟩]
        exact impl_target.wl1 a0 a1 (a1 + -1) (a1 + -2) _ w hm h0.1 h0.2 (impl_target.bn h46) (impl_target.bq h108) (impl_target.wr (by omega) (by omega) (by omega)) (impl_target.wr (by omega) (by omega) (by omega)) (impl_target.wr (by omega) (by omega) (by omega)) (impl_target.wr (by omega) (by omega) (by omega)) (impl_target.in1 (by omega)) c1.1 c1.2 (impl_target.bq c2)
      · rw [if_neg (fun c => c2 c.2)]
        by_cases c3 : 0 ≤ a1 + -2 ∧ a1 + -2 < (a0.size : Int)
        · by_cases c4 : bt a0 (a1 + -2) = 46
          · by_cases c5 : bt a0 (a1 + -1) = bt a0 a1
            · rw [if_neg (fun c => c.2 c5)]
              exact impl_target.wl1110 a0 a1 (a1 + -1) (a1 + -2) _ w hm h0.1 h0.2 (impl_target.bn h46) (impl_target.bq h108) (impl_target.wr (by omega) (by omega) (by omega)) (impl_target.wr (by omega) (by omega) (by omega)) (impl_target.wr (by omega) (by omega) (by omega)) (impl_target.wr (by omega) (by omega) (by omega)) (impl_target.in1 (by omega)) c1.1 c1.2 (impl_target.bn c2) (impl_target.in1 (by omega)) c3.1 c3.2 (impl_target.bq c4) (impl_target.bq c5)
            · rw [if_pos ⟨⟨c3, c4⟩, c5⟩]
              exact impl_target.wl1111 a0 a1 (a1 + -1) (a1 + -2) _ w hm h0.1 h0.2 (impl_target.bn h46) (impl_target.bq h108) (impl_target.wr (by omega) (by omega) (by omega)) (impl_target.wr (by omega) (by omega) (by omega)) (impl_target.wr (by omega) (by omega) (by omega)) (impl_target.wr (by omega) (by omega) (by omega)) (impl_target.in1 (by omega)) c1.1 c1.2 (impl_target.bn c2) (impl_target.in1 (by omega)) c3.1 c3.2 (impl_target.bq c4) (impl_target.bn c5)
          · rw [if_neg (fun c => c4 c.1.2)]
            exact impl_target.wl1100 a0 a1 (a1 + -1) (a1 + -2) _ w hm h0.1 h0.2 (impl_target.bn h46) (impl_target.bq h108) (impl_target.wr (by omega) (by omega) (by omega)) (impl_target.wr (by omega) (by omega) (by omega)) (impl_target.wr (by omega) (by omega) (by omega)) (impl_target.wr (by omega) (by omega) (by omega)) (impl_target.in1 (by omega)) c1.1 c1.2 (impl_target.bn c2) (impl_target.in1 (by omega)) c3.1 c3.2 (impl_target.bn c4)
        · rw [if_neg (fun c => c3 c.1.1)]
          exact impl_target.wl1000 a0 a1 (a1 + -1) (a1 + -2) _ w hm h0.1 h0.2 (impl_target.bn h46) (impl_target.bq h108) (impl_target.wr (by omega) (by omega) (by omega)) (impl_target.wr (by omega) (by omega) (by omega)) (impl_target.wr (by omega) (by omega) (by omega)) (impl_target.wr (by omega) (by omega) (by omega)) (impl_target.in1 (by omega)) c1.1 c1.2 (impl_target.bn c2) (impl_target.in0 (by omega))
    · rw [if_neg (fun c => c1 c.1), if_neg (fun c => c1 (by omega))]
      exact impl_target.wl0000 a0 a1 (a1 + -1) (a1 + -2) _ w hm h0.1 h0.2 (impl_target.bn h46) (impl_target.bq h108) (impl_target.wr (by omega) (by omega) (by omega)) (impl_target.wr (by omega) (by omega) (by omega)) (impl_target.wr (by omega) (by omega) (by omega)) (impl_target.wr (by omega) (by omega) (by omega)) (impl_target.in0 (by omega)) (impl_target.in0 (by omega))
  case neg =>
    have e : frogTo a0 a1 = if (0 ≤ a1 + 1 ∧ a1 + 1 < (a0.size : Int)) ∧ bt a0 (a1 + 1) = 46 then a1 + 1 else if ((0 ≤ a1 + 2 ∧ a1 + 2 < (a0.size : Int)) ∧ bt a0 (a1 + 2) = 46) ∧ ¬ bt a0 (a1 + 1) = bt a0 a1 then a1 + 2 else -1 := by
      unfold frogTo; rw [if_pos ⟨h0, h46⟩]; simp only [if_neg h108]; rfl
    rw [e]
    by_cases c1 : 0 ≤ a1 + 1 ∧ a1 + 1 < (a0.size : Int)
    · by_cases c2 : bt a0 (a1 + 1) = 46
      · rw [if_pos ⟨c1, c2⟩]
        exact impl_target.wr1 a0 a1 (a1 + 1) (a1 + 2) _ w hm h0.1 h0.2 (impl_target.bn h46) (impl_target.bn h108) (impl_target.wr (by omega) (by omega) (by omega)) (impl_target.wr (by omega) (by omega) (by omega)) (impl_target.in1 (by omega)) c1.1 c1.2 (impl_target.bq c2)
      · rw [if_neg (fun c => c2 c.2)]
        by_cases c3 : 0 ≤ a1 + 2 ∧ a1 + 2 < (a0.size : Int)
        · by_cases c4 : bt a0 (a1 + 2) = 46
          · by_cases c5 : bt a0 (a1 + 1) = bt a0 a1
            · rw [if_neg (fun c => c.2 c5)]
              exact impl_target.wr1110 a0 a1 (a1 + 1) (a1 + 2) _ w hm h0.1 h0.2 (impl_target.bn h46) (impl_target.bn h108) (impl_target.wr (by omega) (by omega) (by omega)) (impl_target.wr (by omega) (by omega) (by omega)) (impl_target.in1 (by omega)) c1.1 c1.2 (impl_target.bn c2) (impl_target.in1 (by omega)) c3.1 c3.2 (impl_target.bq c4) (impl_target.bq c5)
            · rw [if_pos ⟨⟨c3, c4⟩, c5⟩]
              exact impl_target.wr1111 a0 a1 (a1 + 1) (a1 + 2) _ w hm h0.1 h0.2 (impl_target.bn h46) (impl_target.bn h108) (impl_target.wr (by omega) (by omega) (by omega)) (impl_target.wr (by omega) (by omega) (by omega)) (impl_target.in1 (by omega)) c1.1 c1.2 (impl_target.bn c2) (impl_target.in1 (by omega)) c3.1 c3.2 (impl_target.bq c4) (impl_target.bn c5)
          · rw [if_neg (fun c => c4 c.1.2)]
            exact impl_target.wr1100 a0 a1 (a1 + 1) (a1 + 2) _ w hm h0.1 h0.2 (impl_target.bn h46) (impl_target.bn h108) (impl_target.wr (by omega) (by omega) (by omega)) (impl_target.wr (by omega) (by omega) (by omega)) (impl_target.in1 (by omega)) c1.1 c1.2 (impl_target.bn c2) (impl_target.in1 (by omega)) c3.1 c3.2 (impl_target.bn c4)
        · rw [if_neg (fun c => c3 c.1.1)]
          exact impl_target.wr1000 a0 a1 (a1 + 1) (a1 + 2) _ w hm h0.1 h0.2 (impl_target.bn h46) (impl_target.bn h108) (impl_target.wr (by omega) (by omega) (by omega)) (impl_target.wr (by omega) (by omega) (by omega)) (impl_target.in1 (by omega)) c1.1 c1.2 (impl_target.bn c2) (impl_target.in0 (by omega))
    · rw [if_neg (fun c => c1 c.1), if_neg (fun c => c1 (by omega))]
      exact impl_target.wr0000 a0 a1 (a1 + 1) (a1 + 2) _ w hm h0.1 h0.2 (impl_target.bn h46) (impl_target.bn h108) (impl_target.wr (by omega) (by omega) (by omega)) (impl_target.wr (by omega) (by omega) (by omega)) (impl_target.in0 (by omega)) (impl_target.in0 (by omega))

/-! ### impl_hops: function 62 -/
def impl_hops.l0 : Nat → ByteArray → List Int → Int → Int → Option (List Int)
  | 0, _, _, _, _ => none
  | k + 1, x0, x3, x7, x8 => if x8 < x7 then ((impl_target.f x0 x8).bind fun t204 => (if t204 ≥ 0 then (if x3.length < 17592186044416 then (impl_hops.l0 k x0 (x3 ++ [x8]) x7 (wrap64 (x8 + 1))) else (none)) else (impl_hops.l0 k x0 x3 x7 (wrap64 (x8 + 1))))) else (some x3)
def impl_hops.f (k : Nat) (a0 : ByteArray) : Option (List Int) := impl_hops.l0 k a0 (([] : List Int)) (a0.size : Int) 0
theorem impl_hops.mono_l : ∀ k, (∀ y0 y1 y2 y3, LeO (impl_hops.l0 k y0 y1 y2 y3) (impl_hops.l0 (k + 1) y0 y1 y2 y3))
  | 0 => fun _ _ _ _ r h => by simp [impl_hops.l0] at h
  | k + 1 => by
    have ih0 := impl_hops.mono_l k
    · intro y0 y1 y2 y3
      unfold impl_hops.l0
      repeat' first
      | (with_reducible exact ih0 _ _ _ _)
      | (with_reducible exact LeO.refl _)
      | (with_reducible exact LeO.none _)
      | (with_reducible refine LeO.ite ?_ ?_)
      | (with_reducible refine LeO.bind ?_ (fun _ => ?_))
      | exact ih0 _ _ _ _
      | exact LeO.none _
      | refine LeO.ite ?_ ?_
      | refine LeO.bind ?_ (fun _ => ?_)
theorem impl_hops.mono : ∀ a0 k, LeO (impl_hops.f k a0) (impl_hops.f (k + 1) a0) := by
  intro a0 k
  have ih0 := impl_hops.mono_l k
  unfold impl_hops.f
  repeat' first
      | (with_reducible exact ih0 _ _ _ _)
      | (with_reducible exact LeO.refl _)
      | (with_reducible exact LeO.none _)
      | (with_reducible refine LeO.ite ?_ ?_)
      | (with_reducible refine LeO.bind ?_ (fun _ => ?_))
      | exact ih0 _ _ _ _
      | exact LeO.none _
      | refine LeO.ite ?_ ?_
      | refine LeO.bind ?_ (fun _ => ?_)
set_option maxHeartbeats 8000000 in
set_option maxRecDepth 100000 in
theorem impl_hops.calls (k : Nat) (a0 : ByteArray) (r : List Int) (w : World) (h : impl_hops.f k a0 = some r) :
    Calls Tryd.prog 62 #[.string a0] w fun e w' => ∃ v0_ : Value, e = .returned (v0_) ∧ Kd.R (Kd.int .i64) 3 w' w.heap.size (fun _ => True) v0_ r ∧ Below w.heap.size w w' := by
  have HB := Aside0.mk (Below.refl w.heap.size w)
  have H : (impl_hops.l0 k a0 (([] : List Int)) (a0.size : Int) 0) = some r := h
  clear h
  obtain ⟨y201, hy201⟩ : ∃ y_ : List Int, y_ = (([] : List Int)) := ⟨_, rfl⟩
  replace H : (impl_hops.l0 k a0 y201 (a0.size : Int) 0) = some r := by first | (rw [hy201]; with_reducible exact H) | (have H2_ := (Option.bind_some _ _).symm.trans H; rw [hy201]; with_reducible exact H2_) | (have H2_ := (Option.bind_some _ _).symm.trans H; with_reducible exact H2_) | with_reducible exact H | (rw [hy201]; exact H) | exact H
  have Ny201 := Aside0.mk hy201
  clear hy201
  have H' := Aside0.mk H
  clear H
  go_enter Tryd.func62, Tryd.ntmps62
  go_wp2_with (first | ((with_reducible refine gate_dst (N := 5) rfl ?_); refine Kd.R_lit (Kd.int .i64) _ 3 ?hg (N := 5) ?hd (xs := ([] : List Int)) (inner := []) (ok := fun _ => True) (okp := fun _ => True) ?hr ?hp (fun _ hk => hk) trivial (Below.refl _ _) (Nat.le_refl _) (by simp) ?_; (case hd => rfl); (case hg => rfl); (case hr => first | (go_simp; done) | (go_simp; rfl)); (case hp => exact (Reps.none _ _)); intro v202 w2 ho3 hb hg_ hnew_; clear hg_ hnew_; (first | rw [← Ny201.out] at ho3 | (simp only [Int.reduceToNat] at ho3; rw [← Ny201.out] at ho3)); have n0_ := Aside0.mk (Kd.R_lower ho3 (below_size (by repeat (first | (with_reducible first | exact HB.out | apply below_alloc | apply pw_below_drewN | apply below_drew1) | exact HB.out)))); have n1_ := Aside0.mk (below_step (by repeat (first | (with_reducible first | exact HB.out | apply below_alloc | apply pw_below_drewN | apply below_drew1) | exact HB.out)) hb); clear HB; have HO203 := n0_; have HB := n1_; clear n0_ n1_; clear hb ho3))
  go_loopg [3, 8] k (fun kq v3 v8 w' => ∃ (x3_1 : List Int) (x8_1 : Int), v8 = .int .i64 x8_1 ∧ Aside0 (impl_hops.l0 kq a0 x3_1 (a0.size : Int) x8_1 = some r) ∧ Aside0 (kq ≤ k) ∧ Aside0 (Kd.R (Kd.int .i64) 3 w' w.heap.size (fun _ => True) v3 x3_1) ∧ Aside0 (Below w.heap.size w w'))
  case atStart => exact ⟨(y201), (0), (by first | rfl | (simp; done) | (simp [*]; done)), H', ⟨Nat.le_refl _⟩, ⟨by (with_reducible repeat (first | apply Kd.R_alloc | apply Kd.R_drewN | apply Kd.R_drew)); exact HO203.out⟩, ⟨by repeat (first | (with_reducible first | exact HB.out | apply below_alloc | apply pw_below_drewN | apply below_drew1) | exact HB.out)⟩⟩
  case round =>
    clear H'
    try clear p2
    obtain ⟨x3_1, x8_1, rfl, HA, HK1, HO_3, HB⟩ := hrel
    cases gk with
    | zero => exact absurd HA.out (by simp [impl_hops.l0])
    | succ k1 =>
      have H := HA.out
      clear HA
      simp only [impl_hops.l0] at H
      by_cases c4 : x8_1 < (a0.size : Int)
      · rw [if_pos c4] at H
        have c4b0 : decide (x8_1 < (a0.size : Int)) = true := decide_eq_true c4
        clear c4
        replace H := Option.bind_eq_some_iff.mp H
        obtain ⟨t204, A50, H⟩ := H
        replace H : (if t204 ≥ 0 then (if x3_1.length < 17592186044416 then (impl_hops.l0 k1 a0 (x3_1 ++ [x8_1]) (a0.size : Int) (wrap64 (x8_1 + 1))) else (none)) else (impl_hops.l0 k1 a0 x3_1 (a0.size : Int) (wrap64 (x8_1 + 1)))) = some r := H
        have A5 := Aside0.mk A50
        clear A50
        by_cases c6 : t204 ≥ 0
        · rw [if_pos c6] at H
          have c6b0 : decide (0 ≤ t204) = true := decide_eq_true c6
          clear c6
          by_cases c7 : x3_1.length < 17592186044416
          · rw [if_pos c7] at H
            have LMc7 := Aside0.mk c7
            clear c7
            obtain ⟨y205, hy205⟩ : ∃ y_ : List Int, y_ = (x3_1 ++ [x8_1]) := ⟨_, rfl⟩
            replace H : (impl_hops.l0 k1 a0 y205 (a0.size : Int) (wrap64 (x8_1 + 1))) = some r := by first | (rw [hy205]; with_reducible exact H) | (have H2_ := (Option.bind_some _ _).symm.trans H; rw [hy205]; with_reducible exact H2_) | (have H2_ := (Option.bind_some _ _).symm.trans H; with_reducible exact H2_) | with_reducible exact H | (rw [hy205]; exact H) | exact H
            have Ny205 := Aside0.mk hy205
            clear hy205
            have H' := Aside0.mk H
            clear H
            go_wp2_with (first | ((with_reducible refine gate_callee (f := 77) rfl ?_); refine goesL_ (some 13) rfl rfl Tryd.func77 (by kernel_rfl) rfl #[.string a0, .int .i64 x8_1] rfl (by (try simp only [List.map_toArray, List.map_cons, List.map_nil]); first | done | rfl | (simp only [List.length_drop, List.length_take]; rfl)) ?_; (with_reducible refine (impl_target.calls a0 x8_1 t204 _ A5.out).mono ?_); rintro e w8 ⟨rfl, hb⟩; refine ⟨_, rfl, ?_⟩; have n0_ := Aside0.mk (Kd.R_below (by (with_reducible repeat (first | apply Kd.R_alloc | apply Kd.R_drewN | apply Kd.R_drew)); exact HO_3.out) hb); have n1_ := Aside0.mk (below_step (by repeat (first | (with_reducible first | exact HB.out | apply below_alloc | apply pw_below_drewN | apply below_drew1) | exact HB.out)) hb); clear HO_3; clear HB; have HO_3 := n0_; have HB := n1_; clear n0_ n1_; (try clear hb); (try clear hb2); (try clear hk); (try clear hi)) | ((with_reducible refine gate_builtin (b := .append) (xs := #[.tmp 15, .tmp 17]) rfl ?_); at_builtin; refine Kd.R_append (Kd.int .i64) (w0 := w) w.heap.size rfl (.tmp 15) (.tmp 17) 34 3 (.int .i64 0) 8 rfl Tryd.underlying34 info3 rfl (by decide) (by omega) u3 x3_1 x8_1 [.int .i64 x8_1] (fun _ => True) (fun _ => False) rfl rfl ?aP (fun _ hk => hk.elim) ?aF ?aO ?aB ?aS ?aL ?_; (case aP => exact rfl); (case aB => exact (by repeat (first | (with_reducible first | exact HB.out | apply below_alloc | apply pw_below_drewN | apply below_drew1) | exact HB.out))); (case aF => exact (fun _ _ => trivial)); (case aO => exact (by (with_reducible repeat (first | apply Kd.R_alloc | apply Kd.R_drewN | apply Kd.R_drew)); exact HO_3.out)); (case aS => exact (below_size (by repeat (first | (with_reducible first | exact HB.out | apply below_alloc | apply pw_below_drewN | apply below_drew1) | exact HB.out)))); (case aL => have := LMc7.out; omega); intro v206 w9 ho hb hg hat; rw [← Ny205.out] at ho; have n0_ := Aside0.mk (hb); have n1_ := Aside0.mk (ho); clear HB; clear HO_3; have HB := n0_; have HO207 := n1_; clear n0_ n1_; clear ho hb hg hat))
            go_roundg k1
            case measure => have := HK1.out; omega
            case rel => exact ⟨(y205), (wrap64 (x8_1 + 1)), (by first | rfl | (simp; done) | (simp [*]; done)), H', ⟨by have := HK1.out; omega⟩, ⟨by (with_reducible repeat (first | apply Kd.R_alloc | apply Kd.R_drewN | apply Kd.R_drew)); exact HO207.out⟩, ⟨by repeat (first | (with_reducible first | exact HB.out | apply below_alloc | apply pw_below_drewN | apply below_drew1) | exact HB.out)⟩⟩
          · rw [if_neg c7] at H
            exact absurd H (by simp)
        · rw [if_neg c6] at H
          have c6b0 : decide (0 ≤ t204) = false := decide_eq_false c6
          clear c6
          have H' := Aside0.mk H
          clear H
          go_wp2_with (first | ((with_reducible refine gate_callee (f := 77) rfl ?_); refine goesL_ (some 13) rfl rfl Tryd.func77 (by kernel_rfl) rfl #[.string a0, .int .i64 x8_1] rfl (by (try simp only [List.map_toArray, List.map_cons, List.map_nil]); first | done | rfl | (simp only [List.length_drop, List.length_take]; rfl)) ?_; (with_reducible refine (impl_target.calls a0 x8_1 t204 _ A5.out).mono ?_); rintro e w10 ⟨rfl, hb⟩; refine ⟨_, rfl, ?_⟩; have n0_ := Aside0.mk (Kd.R_below (by (with_reducible repeat (first | apply Kd.R_alloc | apply Kd.R_drewN | apply Kd.R_drew)); exact HO_3.out) hb); have n1_ := Aside0.mk (below_step (by repeat (first | (with_reducible first | exact HB.out | apply below_alloc | apply pw_below_drewN | apply below_drew1) | exact HB.out)) hb); clear HO_3; clear HB; have HO_3 := n0_; have HB := n1_; clear n0_ n1_; (try clear hb); (try clear hb2); (try clear hk); (try clear hi)))
          go_roundg k1
          case measure => have := HK1.out; omega
          case rel => exact ⟨(x3_1), (wrap64 (x8_1 + 1)), (by first | rfl | (simp; done) | (simp [*]; done)), H', ⟨by have := HK1.out; omega⟩, ⟨by (with_reducible repeat (first | apply Kd.R_alloc | apply Kd.R_drewN | apply Kd.R_drew)); exact HO_3.out⟩, ⟨by repeat (first | (with_reducible first | exact HB.out | apply below_alloc | apply pw_below_drewN | apply below_drew1) | exact HB.out)⟩⟩
      · rw [if_neg c4] at H
        have c4b0 : decide (x8_1 < (a0.size : Int)) = false := decide_eq_false c4
        clear c4
        obtain rfl := Option.some.inj H
        go_wp2
        go_ret
        exact ⟨_, by first | rfl | (simp [errW_none, errW_some] <;> rfl) | (simp [*, errW_none, errW_some] <;> rfl), by (with_reducible repeat (first | apply Kd.R_alloc | apply Kd.R_drewN | apply Kd.R_drew)); exact HO_3.out, by repeat (first | (with_reducible first | exact HB.out | apply below_alloc | apply pw_below_drewN | apply below_drew1) | exact HB.out)⟩

/-! ### impl_hopped: function 63 -/
--USES helper_moved
def impl_hopped.f (a0 : ByteArray) (a1 : Int) : Option (ByteArray) := if (a0.size ≤ 1000 ∧ 0 ≤ a1 ∧ a1 < (a0.size : Int)) ∧ 0 ≤ frogTo a0 a1 ∧ frogTo a0 a1 < (a0.size : Int) then (some (movedB a0 a1)) else none
theorem impl_hopped.belowBytes (w : World) (e : TypeId) (s : ByteArray) : Below w.heap.size w (Lib.bytesWorld w e s) :=
  ⟨rfl, rfl, rfl, by rw [Lib.bytesWorld_size]; omega, fun k hk => Lib.bytesWorld_at_old w e s k hk⟩
theorem impl_hopped.csize (w : World) (e : TypeId) (s : ByteArray) : s.size ≤ (Lib.bytesCells w e s).size := by simp [Lib.bytesCells]
theorem impl_hopped.two (w : World) (e : TypeId) (s : ByteArray) {w' : World} (h : Below (Lib.bytesWorld w e s).drew.heap.size (Lib.bytesWorld w e s).drew w') : Below w.heap.size w w' := by
  have h : Below (Lib.bytesWorld w e s).heap.size (Lib.bytesWorld w e s) w' := ⟨h.os, h.tape, h.output, h.size, h.block⟩
  have h1 := impl_hopped.belowBytes w e s
  have hs := Lib.bytesWorld_size w e s
  exact ⟨h.os.trans h1.os, h.tape.trans h1.tape, h.output.trans h1.output, Nat.le_trans h1.size h.size, fun k hk => (h.block k (by omega)).trans (h1.block k hk)⟩
theorem impl_hopped.ne (s : ByteArray) (i : Int) (h0 : 0 ≤ i) (h : frogTo s i = i) : False := by
  unfold frogTo at h
  generalize hd : (if bt s i = 108 then (-1 : Int) else 1) = d at h
  have hd2 : d = -1 ∨ d = 1 := by rw [← hd]; split <;> simp
  clear hd
  split at h
  · split at h
    · omega
    · split at h
      · omega
      · omega
  · omega
theorem impl_hopped.back (w w' : World) (e : TypeId) (s : ByteArray) (a1 tgt : Int) (v : Int) (hto : frogTo s a1 = tgt) (h0 : 0 ≤ a1) (h1 : a1 < (s.size : Int)) (h2 : 0 ≤ tgt) (h3 : tgt < (s.size : Int)) (hv : v = ((s.data.toList.getD a1.toNat 0).toNat : Int))
    (h : w'.heap[w.heap.size]? = (Lib.bytesWorld w e s).heap[w.heap.size]?) :
    ∀ j (hj : j < (movedB s a1).data.toList.length), ((w'.setCell ⟨w.heap.size, tgt.toNat, none⟩ (.int .u8 v)).setCell ⟨w.heap.size, a1.toNat, none⟩ (.int .u8 46)).cell? ((⟨w.heap.size, 0, none⟩ : Addr).add j) = some (.int .u8 (((movedB s a1).data.toList[j]'hj).toNat : Int)) := by
  intro j hj
  have hl : (movedB s a1).data.toList.length = s.size := by simp [movedB]
  have hj2 : j < s.size := by omega
  have hadd : (⟨w.heap.size, 0, none⟩ : Addr).add j = ⟨w.heap.size, j, none⟩ := by unfold Addr.add; split <;> simp_all
  have hb := h.trans (Lib.bytesWorld_at_new w e s)
  rw [hadd, Go.Sort.setCell_eq, Go.Sort.setCell_eq, Go.Sort.mapBlock_mapBlock, Go.Sort.cell?_mapBlock _ _ _ _ hb]
  have hc : (Lib.bytesCells w e s)[j]? = some (.int .u8 ((s.data.toList.getD j 0).toNat : Int)) := by
    have h5 := Lib.bytesWorld_cell w e s j hj2
    unfold World.cell? at h5
    rw [Lib.bytesWorld_at_new] at h5
    simpa using h5
  have hsz := impl_hopped.csize w e s
  have hm : (movedB s a1).data.toList[j]'hj = movedAt s a1 tgt j := by
    simp [movedB, hto]
  rw [hm]
  unfold movedAt
  simp only [Array.getElem?_setIfInBounds, Array.size_setIfInBounds]
  by_cases c1 : (j : Int) = a1
  · rw [if_pos c1, if_pos (by omega), if_pos (by omega)]; rfl
  · rw [if_neg c1, if_neg (by omega)]
    by_cases c2 : (j : Int) = tgt
    · rw [if_pos c2, if_pos (by omega), if_pos (by omega), hv]
    · rw [if_neg c2, if_neg (by omega), hc]
theorem impl_hopped.below (w w' : World) (a b : Nat) (u v : Value) (h : Below w.heap.size w w') : Below w.heap.size w ((w'.setCell ⟨w.heap.size, a, none⟩ u).setCell ⟨w.heap.size, b, none⟩ v) := by
  rw [Go.Sort.setCell_eq, Go.Sort.setCell_eq, Go.Sort.mapBlock_mapBlock]
  refine ⟨h.os, h.tape, h.output, ?_, fun k hk => ?_⟩
  · simpa [Go.Sort.mapBlock] using h.size
  · have hne : w.heap.size ≠ k := by omega
    rw [← h.block k hk]
    simp [Go.Sort.mapBlock, Array.getElem?_modify, hne]
theorem impl_hopped.cell {w : World} {e : TypeId} {s : ByteArray} {w' : World} (h : w'.heap[w.heap.size]? = (Lib.bytesWorld w e s).heap[w.heap.size]?) (j : Nat) (hj : j < s.size) : w'.cell? ⟨w.heap.size, j, none⟩ = some (.int .u8 ((s.data.toList.getD j 0).toNat : Int)) := by
  have h1 := Lib.bytesWorld_cell w e s j hj
  unfold World.cell? at h1 ⊢
  rw [h]; exact h1
theorem impl_hopped.frozen {w : World} {e : TypeId} {s : ByteArray} {w' : World} (h : w'.heap[w.heap.size]? = (Lib.bytesWorld w e s).heap[w.heap.size]?) (j : Nat) (hj : j < s.size) : w'.frozen? ⟨w.heap.size, j, none⟩ = false := by
  have hsz := impl_hopped.csize w e s
  unfold World.frozen?
  simp only [h, Lib.bytesWorld_at_new]
  simp
  omega
set_option maxHeartbeats 8000000 in
set_option maxRecDepth 100000 in
theorem impl_hopped.calls (a0 : ByteArray) (a1 : Int) (r : ByteArray) (w : World) (h : impl_hopped.f a0 a1 = some r) :
    Calls Tryd.prog 63 #[.string a0, .int .i64 a1] w fun e w' => e = .returned (.string r) ∧ Below w.heap.size w w' := by
  unfold impl_hopped.f at h
  by_cases c : (a0.size ≤ 1000 ∧ 0 ≤ a1 ∧ a1 < (a0.size : Int)) ∧ 0 ≤ frogTo a0 a1 ∧ frogTo a0 a1 < (a0.size : Int)
  case neg => rw [if_neg c] at h; cases h
  rw [if_pos c] at h
  have HR := Aside0.mk (Option.some.inj h)
  have HC := Aside0.mk c
  clear h
  obtain ⟨tgt, hto⟩ : ∃ tgt, frogTo a0 a1 = tgt := ⟨_, rfl⟩
  have HT := Aside0.mk (show impl_target.f a0 a1 = some tgt by unfold impl_target.f; rw [if_pos c.1, hto])
  have HTO := Aside0.mk hto
  have g1 : (0 ≤ a1) = True := eq_true c.1.2.1
  have g2 : (a1 < (a0.size : Int)) = True := eq_true c.1.2.2
  have g3 : (0 ≤ tgt) = True := eq_true (hto ▸ c.2.1)
  have g4 : (tgt < (a0.size : Int)) = True := eq_true (hto ▸ c.2.2)
  obtain ⟨G, hG⟩ : ∃ G : Nat → Int, ∀ j, ((a0.data.toList.getD j 0).toNat : Int) = G j := ⟨fun j => ((a0.data.toList.getD j 0).toNat : Int), fun _ => rfl⟩
  have hconv := Lib.run_convert_string_bytes (P := Tryd.prog) w 9 70 5 a0 Tryd.underlying9 Tryd.underlying70 Tryd.underlying5
  have HF := Aside0.mk (show ∀ w' : World, w'.heap[w.heap.size]? = (Lib.bytesWorld w 5 a0).heap[w.heap.size]? → w'.cell? ⟨w.heap.size, a1.toNat, none⟩ = some (.int .u8 (G a1.toNat)) ∧ w'.cell? ⟨w.heap.size, tgt.toNat, none⟩ = some (.int .u8 (G tgt.toNat)) ∧ w'.frozen? ⟨w.heap.size, a1.toNat, none⟩ = false ∧ w'.frozen? ⟨w.heap.size, tgt.toNat, none⟩ = false from fun w' h => by
    have q1 := of_eq_true g1; have q2 := of_eq_true g2; have q3 := of_eq_true g3; have q4 := of_eq_true g4
    exact ⟨by rw [← hG]; exact impl_hopped.cell h _ (by omega), by rw [← hG]; exact impl_hopped.cell h _ (by omega), impl_hopped.frozen h _ (by omega), impl_hopped.frozen h _ (by omega)⟩)
  obtain ⟨f1, f2, f3, f4⟩ := HF.out _ rfl
  have hne : tgt.toNat ≠ a1.toNat := by
    have q1 := of_eq_true g1; have q3 := of_eq_true g3
    intro e
    have e2 : frogTo a0 a1 = a1 := by rw [hto]; omega
    exact impl_hopped.ne a0 a1 q1 e2
  have n1 : (tgt.toNat = a1.toNat) = False := eq_false hne
  have n2 : (a1.toNat = tgt.toNat) = False := eq_false (Ne.symm hne)
  clear hne
  have HBK := Aside0.mk (fun (w' : World) (h : w'.heap[w.heap.size]? = (Lib.bytesWorld w 5 a0).heap[w.heap.size]?) => run_convert_bytes_back ((w'.setCell ⟨w.heap.size, tgt.toNat, none⟩ (.int .u8 (G a1.toNat))).setCell ⟨w.heap.size, a1.toNat, none⟩ (.int .u8 46)) 70 9 5 ⟨w.heap.size, 0, none⟩ (grownCap w a0.size 0 5) (movedB a0 a1).data.toList Tryd.underlying70 Tryd.underlying5 Tryd.underlying9 (impl_hopped.back w w' 5 a0 a1 tgt (G a1.toNat) hto (of_eq_true g1) (of_eq_true g2) (of_eq_true g3) (of_eq_true g4) (hG _).symm h))
  have HLen := Aside0.mk (show (movedB a0 a1).data.toList.length = a0.size by simp [movedB])
  have HG := Aside0.mk hG
  clear c hto hG
  go_enter Tryd.func63, Tryd.ntmps63
  go_wp2_with fail
  go_region_with (go_at_call 77; (with_reducible refine (impl_target.calls a0 a1 tgt _ HT.out).mono ?_); rintro e w' ⟨rfl, hb⟩; obtain ⟨h1, h2, h3, h4⟩ := HF.out w' (hb.block w.heap.size (by first | exact Nat.lt_succ_self _ | (simp [Lib.bytesWorld_size]; done) | (rw [Lib.bytesWorld_size]; exact Nat.lt_succ_self _))); have HB := Aside0.mk hb; clear hb)
  all_goals (
    have hback := HBK.out w' (HB.out.block w.heap.size (by first | exact Nat.lt_succ_self _ | (simp [Lib.bytesWorld_size]; done) | (rw [Lib.bytesWorld_size]; exact Nat.lt_succ_self _)))
    rw [HLen.out] at hback
    have HBL := Aside0.mk (impl_hopped.below w w' tgt.toNat a1.toNat (.int .u8 (G a1.toNat)) (.int .u8 46) (impl_hopped.two w 5 a0 HB.out))
    clear h1 h2 h3 h4 HB HF f1 f2 f3 f4 hconv
    go_wp2
    go_ret
    exact ⟨by rw [← HR.out]; rfl, HBL.out⟩)

/-! ### slices_Index_string_string: function 78 -/
def slices_Index_string_string.l0 : Nat → List ByteArray → ByteArray → Int → Int → Option (Int)
  | 0, _, _, _, _ => none
  | k + 1, x0, x1, x7, x8 => if x8 < x7 then (if 0 ≤ x8 then (if x8 < (x0.length : Int) then (if x1.toList = (rdOf ByteArray.empty x0 x8).toList then (some x8) else (slices_Index_string_string.l0 k x0 x1 x7 (wrap64 (x8 + 1)))) else (none)) else (none)) else (some (-1))
def slices_Index_string_string.f (k : Nat) (l0 : List ByteArray) (a1 : ByteArray) : Option (Int) := slices_Index_string_string.l0 k l0 a1 (l0.length : Int) 0
theorem slices_Index_string_string.mono_l : ∀ k, (∀ y0 y1 y2 y3, LeO (slices_Index_string_string.l0 k y0 y1 y2 y3) (slices_Index_string_string.l0 (k + 1) y0 y1 y2 y3))
  | 0 => fun _ _ _ _ r h => by simp [slices_Index_string_string.l0] at h
  | k + 1 => by
    have ih0 := slices_Index_string_string.mono_l k
    · intro y0 y1 y2 y3
      unfold slices_Index_string_string.l0
      repeat' first
      | (with_reducible exact ih0 _ _ _ _)
      | (with_reducible exact LeO.refl _)
      | (with_reducible exact LeO.none _)
      | (with_reducible refine LeO.ite ?_ ?_)
      | (with_reducible refine LeO.bind ?_ (fun _ => ?_))
      | exact ih0 _ _ _ _
      | exact LeO.none _
      | refine LeO.ite ?_ ?_
      | refine LeO.bind ?_ (fun _ => ?_)
theorem slices_Index_string_string.mono : ∀ a0 a1 k, LeO (slices_Index_string_string.f k a0 a1) (slices_Index_string_string.f (k + 1) a0 a1) := by
  intro a0 a1 k
  have ih0 := slices_Index_string_string.mono_l k
  unfold slices_Index_string_string.f
  repeat' first
      | (with_reducible exact ih0 _ _ _ _)
      | (with_reducible exact LeO.refl _)
      | (with_reducible exact LeO.none _)
      | (with_reducible refine LeO.ite ?_ ?_)
      | (with_reducible refine LeO.bind ?_ (fun _ => ?_))
      | exact ih0 _ _ _ _
      | exact LeO.none _
      | refine LeO.ite ?_ ?_
      | refine LeO.bind ?_ (fun _ => ?_)
set_option maxHeartbeats 8000000 in
set_option maxRecDepth 100000 in
theorem slices_Index_string_string.calls (k : Nat) (A0 : Option Addr) (c0 : Nat) (l0 : List ByteArray) (a1 : ByteArray) (r : Int) (w : World) (hr0 : Kd.C Kd.string w A0 l0.length l0) (hc0 : l0.length ≤ c0) (h : slices_Index_string_string.f k l0 a1 = some r) :
    Calls Tryd.prog 78 #[.slice A0 l0.length c0, .string a1] w fun e w' => e = .returned (.int .i64 r) ∧ Drawn0 w w' := by
  have HR0 := Aside0.mk hr0
  have HC0 := Aside0.mk hc0
  clear hr0 hc0
  have H : (slices_Index_string_string.l0 k l0 a1 (l0.length : Int) 0) = some r := h
  clear h
  have H' := Aside0.mk H
  clear H
  go_enter Tryd.func78, Tryd.ntmps78
  go_wp2
  go_loopg [8] k (fun kq v8 w' => ∃ (x8_1 : Int), v8 = .int .i64 x8_1 ∧ Aside0 (slices_Index_string_string.l0 kq l0 a1 (l0.length : Int) x8_1 = some r) ∧ Aside0 (kq ≤ k) ∧ Drawn0 w w')
  case atStart => exact ⟨(0), (by first | rfl | (simp; done) | (simp [*]; done)), H', ⟨Nat.le_refl _⟩, by repeat (first | exact Drawn0.refl _ | apply Drawn0.step)⟩
  case round =>
    clear H'
    try clear p2
    obtain ⟨x8_1, rfl, HA, HK1, ⟨m1, rfl⟩⟩ := hrel
    cases gk with
    | zero => exact absurd HA.out (by simp [slices_Index_string_string.l0])
    | succ k1 =>
      have H := HA.out
      clear HA
      simp only [slices_Index_string_string.l0] at H
      by_cases c3 : x8_1 < (l0.length : Int)
      · rw [if_pos c3] at H
        have c3b0 : decide (x8_1 < (l0.length : Int)) = true := decide_eq_true c3
        clear c3
        by_cases c4 : 0 ≤ x8_1
        · rw [if_pos c4] at H
          have c4b0 : decide (0 ≤ x8_1) = true := decide_eq_true c4
          clear c4
          by_cases c5 : x8_1 < (l0.length : Int)
          · rw [if_pos c5] at H
            have c5b0 : decide (x8_1 < (l0.length : Int)) = true := decide_eq_true c5
            clear c5
            by_cases c6 : a1.toList = (rdOf ByteArray.empty l0 x8_1).toList
            · rw [if_pos c6] at H
              have c6b0 : (a1.toList == (rdOf ByteArray.empty l0 x8_1).toList) = true := beq_iff_eq.mpr c6
              have c6b1 : (a1.toList != (rdOf ByteArray.empty l0 x8_1).toList) = false := bne_eq_false_iff_eq.mpr c6
              clear c6
              obtain rfl := Option.some.inj H
              have p208 : 0 ≤ (x8_1 : Int) := of_decide_eq_true (by first | (with_reducible assumption) | assumption)
              have q208 : x8_1 < (l0.length : Int) := of_decide_eq_true (by first | (with_reducible assumption) | assumption)
              obtain ⟨ad208, e208, hx208_0⟩ := Kd.at_string HR0.out x8_1 p208 q208
              cases e208
              replace p208 := eq_true p208
              replace q208 := eq_true q208
              go_wp2
              go_ret
              exact ⟨by first | rfl | (simp; done) | (simp [*]; done), by repeat (first | exact Drawn0.refl _ | apply Drawn0.step)⟩
            · rw [if_neg c6] at H
              have c6b0 : (a1.toList == (rdOf ByteArray.empty l0 x8_1).toList) = false := beq_eq_false_iff_ne.mpr c6
              have c6b1 : (a1.toList != (rdOf ByteArray.empty l0 x8_1).toList) = true := bne_iff_ne.mpr c6
              have H' := Aside0.mk H
              clear H
              have p208 : 0 ≤ (x8_1 : Int) := of_decide_eq_true (by first | (with_reducible assumption) | assumption)
              have q208 : x8_1 < (l0.length : Int) := of_decide_eq_true (by first | (with_reducible assumption) | assumption)
              obtain ⟨ad208, e208, hx208_0⟩ := Kd.at_string HR0.out x8_1 p208 q208
              cases e208
              replace p208 := eq_true p208
              replace q208 := eq_true q208
              go_wp2
              go_roundg k1
              case measure => have := HK1.out; omega
              case rel => exact ⟨(wrap64 (x8_1 + 1)), (by first | rfl | (simp; done) | (simp [*]; done)), H', ⟨by have := HK1.out; omega⟩, by repeat (first | exact Drawn0.refl _ | apply Drawn0.step)⟩
          · rw [if_neg c5] at H
            exact absurd H (by simp)
        · rw [if_neg c4] at H
          exact absurd H (by simp)
      · rw [if_neg c3] at H
        have c3b0 : decide (x8_1 < (l0.length : Int)) = false := decide_eq_false c3
        clear c3
        obtain rfl := Option.some.inj H
        go_wp2
        go_ret
        exact ⟨by first | rfl | (simp; done) | (simp [*]; done), by repeat (first | exact Drawn0.refl _ | apply Drawn0.step)⟩

/-! ### slices_Contains_string_string: function 64 -/
def slices_Contains_string_string.f (k : Nat) (l0 : List ByteArray) (a1 : ByteArray) : Option (Bool) := (slices_Index_string_string.f k l0 a1).bind fun t209 => (some (decide (t209 ≥ 0)))
theorem slices_Contains_string_string.mono : ∀ a0 a1 k, LeO (slices_Contains_string_string.f k a0 a1) (slices_Contains_string_string.f (k + 1) a0 a1) := by
  intro a0 a1 k
  unfold slices_Contains_string_string.f
  repeat' first
      | (with_reducible exact slices_Index_string_string.mono _ _ _)
      | (with_reducible exact LeO.refl _)
      | (with_reducible exact LeO.none _)
      | (with_reducible refine LeO.ite ?_ ?_)
      | (with_reducible refine LeO.bind ?_ (fun _ => ?_))
      | exact slices_Index_string_string.mono _ _ _
      | exact LeO.none _
      | refine LeO.ite ?_ ?_
      | refine LeO.bind ?_ (fun _ => ?_)
set_option maxHeartbeats 8000000 in
set_option maxRecDepth 100000 in
theorem slices_Contains_string_string.calls (k : Nat) (A0 : Option Addr) (c0 : Nat) (l0 : List ByteArray) (a1 : ByteArray) (r : Bool) (w : World) (hr0 : Kd.C Kd.string w A0 l0.length l0) (hc0 : l0.length ≤ c0) (h : slices_Contains_string_string.f k l0 a1 = some r) :
    Calls Tryd.prog 64 #[.slice A0 l0.length c0, .string a1] w fun e w' => e = .returned (.bool r) ∧ Drawn0 w w' := by
  have HR0 := Aside0.mk hr0
  have HC0 := Aside0.mk hc0
  clear hr0 hc0
  have H : ((slices_Index_string_string.f k l0 a1).bind fun t209 => (some (decide (t209 ≥ 0)))) = some r := h
  clear h
  replace H := Option.bind_eq_some_iff.mp H
  obtain ⟨t209, A30, H⟩ := H
  replace H : (some (decide (t209 ≥ 0))) = some r := H
  have A3 := Aside0.mk A30
  clear A30
  obtain rfl := Option.some.inj H
  go_enter Tryd.func64, Tryd.ntmps64
  go_wp2_with (first | ((with_reducible refine gate_callee (f := 78) rfl ?_); refine goesL_ (some 7) rfl rfl Tryd.func78 (by kernel_rfl) rfl #[.slice A0 l0.length c0, .string a1] rfl (by (try simp only [List.map_toArray, List.map_cons, List.map_nil]); first | done | rfl | (simp only [List.length_drop, List.length_take]; rfl)) ?_; (with_reducible refine (slices_Index_string_string.calls k _ _ l0 a1 t209 _ ?side1 ?side2 A3.out).mono ?_); (case side1 => repeat (first | exact HR0.out | (with_reducible refine Kd.C_alloc ?_ _) | (with_reducible refine Kd.C_drewN ?_ _) | (with_reducible refine Kd.C_drew ?_))); (case side2 => exact HC0.out); rintro e w' ⟨rfl, ⟨nd, rfl⟩⟩; refine ⟨_, rfl, ?_⟩))
  go_ret
  exact ⟨by first | rfl | (simp; done) | (simp [*]; done), by repeat (first | exact Drawn0.refl _ | apply Drawn0.step)⟩

end Go.Proofs.YtkikpfeipejnlaaDoor.PFnExactStuckPonds
