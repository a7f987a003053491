-- Printed by this session's eprint.py over the kit's print (with this session's own texts for some functions)
import Derived.Test.YtkikpfeipejnlaaDoorPFnExactCanExchangex0
import Derived.Test.YtkikpfeipejnlaaDoorPFnExactCanExchangex1
import Derived.Test.YtkikpfeipejnlaaDoorPFnExactCanExchangex3
import Derived.Test.YtkikpfeipejnlaaDoorPFnExactCanExchangex5
namespace Go.Proofs.YtkikpfeipejnlaaDoor.PFnExactCanExchange
open Go.RowKit Go.Proofs.YtkikpfeipejnlaaDoorW.PrintWords Go.Proofs.YtkikpfeipejnlaaDoorW.PrintLast Go.Proofs.YtkikpfeipejnlaaDoorW.PrintMore
attribute [local go_sem] max2_int min2_int max_two min_two max_three min_three max_four min_four   -- for this text's walks alone
set_option linter.unusedVariables false
set_option linter.unusedSimpArgs false

/-! ### impl_CanExchange: function 19 -/
set_option maxHeartbeats 8000000 in
theorem plTo_walk (F : Nat) (caps : Array Value) (W : World) :
    Calls Tryd.prog 51 #[.func (.func F) #[] caps] W fun e W' => ∃ B, e = .returned (.agg #[.func (.func F) #[] caps, .map (some B)]) ∧ W.heap.size ≤ B ∧ plMem W' B [] ∧ Below W.heap.size W W' := by
  have hmm := @run_makeMap Tryd.prog
  go_enter Tryd.func51, Tryd.ntmps51
  go_wp2
  have hm := World.ownsMap_made (H := Unit) (W.alloc (.cells #[.func (.func F) #[] caps, .map (some (W.heap.size + 1))] 51)) Tryd.prog 9 plR
  rw [show (W.alloc (.cells #[.func (.func F) #[] caps, .map (some (W.heap.size + 1))] 51)).heap.size = W.heap.size + 1 from by simp] at hm
  exact bodyPost_ret (v := .agg #[.func (.func F) #[] caps, .map (some (W.heap.size + 1))]) (by simp [results, Tryd.results51, go_sem]) rfl ⟨W.heap.size + 1, rfl, by omega, hm, below_alloc (below_alloc (Below.refl _ _) _) _⟩
def plBox (W : World) (b : Nat) (g : ByteArray) : Prop := W.heap[b]? = some (.cells #[.string g] 9 (0, 0))
/-- Is a pond the goal? -/
def plIs (g s : ByteArray) : Option Bool := some (s.toList == g.toList)
set_option maxHeartbeats 8000000 in
theorem plGoal (Bg : Nat) (g : ByteArray) : plEnd (plIs g) 67 #[.pointer (some ⟨Bg, 0, none⟩)] (fun W => plBox W Bg g) := by
  refine ⟨fun W s b h hb => ?_, fun W W' B M h hm hg => blk_grown h hg (fun e => by injection e with e; exact hm.ne h e.symm)⟩
  obtain rfl := Option.some.inj hb
  have c0 : W.cell? ⟨Bg, 0, none⟩ = some (.string g) := by rw [blk_cell h]; rfl
  clear hb
  show Calls Tryd.prog 67 #[.string s, .pointer (some ⟨Bg, 0, none⟩)] W _
  go_enter Tryd.func67, Tryd.ntmps67
  go_wp2
  go_ret
  exact ⟨rfl, Below.refl _ _⟩
/-- What holds in the drawn region of 'toGoal', where some of its operations are done. -/
structure plRG (W : World) (a0 a1 : ByteArray) (B b6 : Nat) (p1 b2 q2 b3 q3 b4 q4 : Bool) (n : plF) (M : plM) (L : Nat → Bool) (v9 v10 v11 v12 v13 v14 v15 v16 v17 v18 v19 v20 v21 v22 v23 v24 v25 v26 v27 v28 v29 v5 : Value) (W' : World) : Prop where
  g : Below W.heap.size W W'
  n6 : W.heap.size + 2 ≤ B ∧ B < b6
  bx : plBox W' W.heap.size a1
  rs : W'.heap[W.heap.size + 1]? = some (.cells (if L 21 = true then #[(.func (.func 67) #[] #[.pointer (some ⟨W.heap.size, 0, none⟩)]), .map (some B)] else #[.nilFunc, .map none]) 51 (0, 0))
  p : W'.heap[b6]? = some (.cells #[(.func (.func 67) #[] #[.pointer (some ⟨W.heap.size, 0, none⟩)]), .map (some B)] 51 (0, 0))
  mem : plMem W' B (if (L 17 && q3) = true then M else [])
  h0 : L 0 = true → v9 = .agg #[(.func (.func 67) #[] #[.pointer (some ⟨W.heap.size, 0, none⟩)]), .map (some B)]
  h1 : L 1 = true → v10 = .string a0
  h2 : L 2 = true → v11 = .bool p1
  h3 : L 3 = true → v12 = .bool p1
  h4 : L 4 = true → v13 = if p1 = true then .string a1 else undef
  h5 : L 5 = true → v14 = if p1 = true then .bool b2 else undef
  h6 : L 6 = true → v15 = .bool q2
  h7 : L 7 = true → v16 = .bool q2
  h8 : L 8 = true → v17 = if q2 = true then .string a0 else undef
  h9 : L 9 = true → v18 = if q2 = true then .int .i64 a0.size else undef
  h10 : L 10 = true → v19 = if q2 = true then .string a1 else undef
  h11 : L 11 = true → v20 = if q2 = true then .int .i64 a1.size else undef
  h12 : L 12 = true → v21 = if q2 = true then .bool b3 else undef
  h13 : L 13 = true → v22 = .bool q3
  h14 : L 14 = true → v23 = .bool q3
  h15 : L 15 = true → v24 = if q3 = true then .agg #[(.func (.func 67) #[] #[.pointer (some ⟨W.heap.size, 0, none⟩)]), .map (some B)] else undef
  h16 : L 16 = true → v25 = if q3 = true then .string a0 else undef
  h17 : L 17 = true → v26 = if q3 = true then .agg #[.int .i64 n.1, .int .i64 n.2.1, .int .i64 n.2.2] else undef
  h18 : L 18 = true → v27 = if q3 = true then .int .i64 n.2.2 else undef
  h19 : L 19 = true → v28 = if q3 = true then .bool b4 else undef
  h20 : L 20 = true → v29 = .bool q4
  h22 : L 22 = true → v5 = .bool q4
  o21 : L 21 = true → L 17 = true
theorem plRG.below {W W1 W2 : World} {a0 a1 : ByteArray} {B b6 : Nat} {p1 b2 q2 b3 q3 b4 q4 : Bool} {n : plF} {M : plM} {L : Nat → Bool} {v9 v10 v11 v12 v13 v14 v15 v16 v17 v18 v19 v20 v21 v22 v23 v24 v25 v26 v27 v28 v29 v5 : Value} (H : plRG W a0 a1 B b6 p1 b2 q2 b3 q3 b4 q4 n M L v9 v10 v11 v12 v13 v14 v15 v16 v17 v18 v19 v20 v21 v22 v23 v24 v25 v26 v27 v28 v29 v5 W1) (hb : Below W1.heap.size W1 W2) : plRG W a0 a1 B b6 p1 b2 q2 b3 q3 b4 q4 n M L v9 v10 v11 v12 v13 v14 v15 v16 v17 v18 v19 v20 v21 v22 v23 v24 v25 v26 v27 v28 v29 v5 W2 :=
  ⟨below_step H.g hb, H.n6, (hb.block _ (blk_lt H.bx)).trans H.bx, (hb.block _ (blk_lt H.rs)).trans H.rs, (hb.block _ (blk_lt H.p)).trans H.p, H.mem.below hb, H.h0, H.h1, H.h2, H.h3, H.h4, H.h5, H.h6, H.h7, H.h8, H.h9, H.h10, H.h11, H.h12, H.h13, H.h14, H.h15, H.h16, H.h17, H.h18, H.h19, H.h20, H.h22, H.o21⟩
/-- What 'toGoal' answers: are there moves to the goal, and what is known. -/
def plGo (k d : Nat) (a0 a1 : ByteArray) : Option (Bool × plM) := (impl_IsPond.f a0).bind fun p1 => if p1 = true then (impl_IsPond.f a1).bind fun b2 => if b2 = true then if a0.size = a1.size then (plOf (plIs a1) k d [] a0).bind fun r => some (decide (0 < r.1.2.2), r.2) else some (false, []) else some (false, []) else some (false, [])
theorem plGo_of {k d : Nat} {a0 a1 : ByteArray} {ok : Bool} {M : plM} (h : plGo k d a0 a1 = some (ok, M)) : ∃ (p1 b2 : Bool) (n : plF) (M1 : plM), impl_IsPond.f a0 = some p1 ∧ (p1 = true → impl_IsPond.f a1 = some b2) ∧ (((p1 && b2) && ((a0.size : Int) == (a1.size : Int))) = true → plOf (plIs a1) k d [] a0 = some (n, M1)) ∧ ok = (((p1 && b2) && ((a0.size : Int) == (a1.size : Int))) && decide (0 < n.2.2)) ∧ M = if (((p1 && b2) && ((a0.size : Int) == (a1.size : Int)))) = true then M1 else [] := by
  obtain ⟨p1, h1, h⟩ := Option.bind_eq_some_iff.mp h
  cases p1 with
  | false =>
    simp only [Bool.false_eq_true, if_false, Option.some.injEq, Prod.mk.injEq] at h
    obtain ⟨rfl, rfl⟩ := h
    exact ⟨false, false, (0, 0, 0), [], h1, nofun, by simp, by simp, by simp⟩
  | true =>
    rw [if_pos rfl] at h
    obtain ⟨b2, h2, h⟩ := Option.bind_eq_some_iff.mp h
    cases b2 with
    | false =>
      simp only [Bool.false_eq_true, if_false, Option.some.injEq, Prod.mk.injEq] at h
      obtain ⟨rfl, rfl⟩ := h
      exact ⟨true, false, (0, 0, 0), [], h1, fun _ => h2, by simp, by simp, by simp⟩
    | true =>
      rw [if_pos rfl] at h
      by_cases hs : a0.size = a1.size
      · have hs' : ((a0.size : Int) == (a1.size : Int)) = true := beq_iff_eq.2 (by omega)
        rw [if_pos hs] at h
        obtain ⟨⟨n, M1⟩, h3, h⟩ := Option.bind_eq_some_iff.mp h
        simp only [Option.some.injEq, Prod.mk.injEq] at h
        obtain ⟨rfl, rfl⟩ := h
        exact ⟨true, true, n, M1, h1, fun _ => h2, fun _ => h3, by rw [hs']; rfl, by rw [hs']; rfl⟩
      · have hs' : ((a0.size : Int) == (a1.size : Int)) = false := beq_eq_false_iff_ne.2 (by omega)
        rw [if_neg hs] at h
        simp only [Option.some.injEq, Prod.mk.injEq] at h
        obtain ⟨rfl, rfl⟩ := h
        exact ⟨true, true, (0, 0, 0), [], h1, fun _ => h2, by rw [hs']; simp, by rw [hs']; rfl, by rw [hs']; rfl⟩
set_option maxHeartbeats 8000000 in
set_option maxRecDepth 100000 in
theorem plGo_walk (k d : Nat) (a0 a1 : ByteArray) (ok : Bool) (M : plM) (W : World) (h : plGo k d a0 a1 = some (ok, M)) : Calls Tryd.prog 45 #[.string a0, .string a1] W fun e W' => ∃ B, e = .returned (.tuple #[.agg #[(.func (.func 67) #[] #[.pointer (some ⟨W.heap.size, 0, none⟩)]), .map (some B)], .bool ok]) ∧ W.heap.size ≤ B ∧ plBox W' W.heap.size a1 ∧ plMem W' B M ∧ Below W.heap.size W W' := by
  obtain ⟨p1, b2, n, M1, h1, h2, h3, hok, hM⟩ := plGo_of h
  obtain ⟨b3, hb3⟩ : ∃ b3 : Bool, ((a0.size : Int) == (a1.size : Int)) = b3 := ⟨_, rfl⟩
  rw [hb3] at h3 hok hM
  obtain ⟨b4, hb4⟩ : ∃ b4 : Bool, decide (0 < n.2.2) = b4 := ⟨_, rfl⟩
  rw [hb4] at hok
  obtain ⟨q2, hq2⟩ : ∃ q2 : Bool, q2 = (p1 && b2) := ⟨_, rfl⟩
  rw [← hq2] at h3 hok hM
  obtain ⟨q3, hq3⟩ : ∃ q3 : Bool, q3 = (q2 && b3) := ⟨_, rfl⟩
  rw [← hq3] at h3 hok hM
  have HMQ := Aside0.mk hM
  clear hM
  have HP1 := Aside0.mk h1
  have HP2 := Aside0.mk h2
  have HOF := Aside0.mk h3
  have HQ2 := Aside0.mk hq2
  have HQ3 := Aside0.mk hq3
  have HQ4 := Aside0.mk hok
  have HB3 := Aside0.mk hb3
  have HB4 := Aside0.mk hb4
  have h20 := Aside0.mk (show ((W.alloc (.cells #[.string a1] 9)).alloc (.cells #[.nilFunc, .map none] 51)).heap[W.heap.size]? = some (.cells #[.string a1] 9 (0, 0)) from (Below.heap_alloc _ _ _ (by simp)).trans (blk_new W _))
  have h21 := Aside0.mk (show ((W.alloc (.cells #[.string a1] 9)).alloc (.cells #[.nilFunc, .map none] 51)).heap[W.heap.size + 1]? = some (.cells #[.nilFunc, .map none] 51 (0, 0)) from by have := blk_new (W.alloc (.cells #[.string a1] 9)) (.cells #[.nilFunc, .map none] 51); rw [show (W.alloc (.cells #[.string a1] 9)).heap.size = W.heap.size + 1 from by simp] at this; exact this)
  clear h h1 h2 h3 hq2 hq3 hok hb3 hb4
  go_enter Tryd.func45, Tryd.ntmps45
  go_wp2_with (first | (go_at_call 51; (refine (plTo_walk 67 _ _).mono ?_); rintro e w3 ⟨B, rfl, hB, hm, hb⟩; have HBW := Aside0.mk (show W.heap.size + 2 ≤ B from by simpa using hB); have HM3 := Aside0.mk hm; have HBL := Aside0.mk hb; clear hB hm hb))
  refine region_inv (J := fun L a Wc => ∃ v9 v10 v11 v12 v13 v14 v15 v16 v17 v18 v19 v20 v21 v22 v23 v24 v25 v26 v27 v28 v29 v5 : Value, a = { tmps := #[Value.string a0, Value.string a1, undef, Value.pointer (some { block := W.heap.size, off := 0 }), Value.pointer (some { block := W.heap.size + 1, off := 0 }), v5, Value.pointer (some { block := w3.heap.size, off := 0 }), Value.func (Fn.func 67) #[] #[Value.pointer (some { block := W.heap.size, off := 0 })], Value.agg #[Value.func (Fn.func 67) #[] #[Value.pointer (some { block := W.heap.size, off := 0 })], Value.map (some B)], v9, v10, v11, v12, v13, v14, v15, v16, v17, v18, v19, v20, v21, v22, v23, v24, v25, v26, v27, v28, v29], defers := [] } ∧ plRG W a0 a1 B w3.heap.size p1 b2 q2 b3 q3 b4 ok n M1 L v9 v10 v11 v12 v13 v14 v15 v16 v17 v18 v19 v20 v21 v22 v23 v24 v25 v26 v27 v28 v29 v5 Wc) (by kernel_rfl) (by kernel_rfl) ?start ?step ?fin
  case start =>
    have hl := HM3.out.lt
    have n2 : ((W.alloc (.cells #[.string a1] 9)).alloc (.cells #[.nilFunc, .map none] 51)).heap.size = W.heap.size + 2 := by simp
    have k1 := HBL.out
    have k2 := below_alloc (Below.refl w3.heap.size w3) (.cells #[(.func (.func 67) #[] #[.pointer (some ⟨W.heap.size, 0, none⟩)]), .map (some B)] 51)
    refine ⟨_, _, _, _, _, _, _, _, _, _, _, _, _, _, _, _, _, _, _, _, _, _, rfl, ⟨?_, ⟨HBW.out, hl⟩, ?_, ?_, ?_, ?_, nofun, nofun, nofun, nofun, nofun, nofun, nofun, nofun, nofun, nofun, nofun, nofun, nofun, nofun, nofun, nofun, nofun, nofun, nofun, nofun, nofun, nofun, nofun⟩⟩
    · exact below_drew1 (below_alloc (below_step (below_alloc (below_alloc (Below.refl _ _) _) _) k1) _)
    · exact (k2.block _ (by have := HBW.out; omega)).trans ((k1.block _ (by omega)).trans h20.out)
    · rw [if_neg (by simp)]; exact (k2.block _ (by have := HBW.out; omega)).trans ((k1.block _ (by omega)).trans h21.out)
    · exact blk_new w3 _
    · rw [if_neg (by simp)]; exact (HM3.out.below k2).below (below_drew1 (Below.refl _ _))
  case step =>
    rintro L a Wc j ob ho hL hp ⟨v9, v10, v11, v12, v13, v14, v15, v16, v17, v18, v19, v20, v21, v22, v23, v24, v25, v26, v27, v28, v29, v5, rfl, H⟩
    have hj : j < 23 := (Array.getElem?_eq_some_iff.1 ho).1
    rcases (show j = 0 ∨ j = 1 ∨ j = 2 ∨ j = 3 ∨ j = 4 ∨ j = 5 ∨ j = 6 ∨ j = 7 ∨ j = 8 ∨ j = 9 ∨ j = 10 ∨ j = 11 ∨ j = 12 ∨ j = 13 ∨ j = 14 ∨ j = 15 ∨ j = 16 ∨ j = 17 ∨ j = 18 ∨ j = 19 ∨ j = 20 ∨ j = 21 ∨ j = 22 by omega) with rfl | rfl | rfl | rfl | rfl | rfl | rfl | rfl | rfl | rfl | rfl | rfl | rfl | rfl | rfl | rfl | rfl | rfl | rfl | rfl | rfl | rfl | rfl
    all_goals (obtain rfl : _ = ob := Option.some.inj (show some _ = some ob from ho); simp [Region.binds] at hp; refine plOp_of rfl (fun K hK => ?_))
    · -- operation 0
      have d0 : Wc.cell? ⟨w3.heap.size, 0, none⟩ = some (.func (.func 67) #[] #[.pointer (some ⟨W.heap.size, 0, none⟩)]) := by rw [blk_cell H.p]; rfl
      have d1 : Wc.cell? ⟨w3.heap.size, 1, none⟩ = some (.map (some B)) := by rw [blk_cell H.p]; rfl
      go_simp
      refine Or.inl ?_
      have H1 := H
      refine hK _ _ ⟨_, v10, v11, v12, v13, v14, v15, v16, v17, v18, v19, v20, v21, v22, v23, v24, v25, v26, v27, v28, v29, v5, rfl, ⟨?_, ?_, ?_, ?_, ?_, ?_, ?_, ?_, ?_, ?_, ?_, ?_, ?_, ?_, ?_, ?_, ?_, ?_, ?_, ?_, ?_, ?_, ?_, ?_, ?_, ?_, ?_, ?_, ?_⟩⟩
      · exact H1.g
      · exact H1.n6
      · exact H1.bx
      · exact by simpa using H1.rs
      · exact H1.p
      · exact by simpa using H1.mem
      · exact fun _ => rfl
      · exact fun hl => H1.h1 (by simpa using hl)
      · exact fun hl => H1.h2 (by simpa using hl)
      · exact fun hl => H1.h3 (by simpa using hl)
      · exact fun hl => H1.h4 (by simpa using hl)
      · exact fun hl => H1.h5 (by simpa using hl)
      · exact fun hl => H1.h6 (by simpa using hl)
      · exact fun hl => H1.h7 (by simpa using hl)
      · exact fun hl => H1.h8 (by simpa using hl)
      · exact fun hl => H1.h9 (by simpa using hl)
      · exact fun hl => H1.h10 (by simpa using hl)
      · exact fun hl => H1.h11 (by simpa using hl)
      · exact fun hl => H1.h12 (by simpa using hl)
      · exact fun hl => H1.h13 (by simpa using hl)
      · exact fun hl => H1.h14 (by simpa using hl)
      · exact fun hl => H1.h15 (by simpa using hl)
      · exact fun hl => H1.h16 (by simpa using hl)
      · exact fun hl => H1.h17 (by simpa using hl)
      · exact fun hl => H1.h18 (by simpa using hl)
      · exact fun hl => H1.h19 (by simpa using hl)
      · exact fun hl => H1.h20 (by simpa using hl)
      · exact fun hl => H1.h22 (by simpa using hl)
      · exact fun hl => by have := H1.o21 (by simpa using hl); simp [this]
    · -- operation 1
      go_simp
      refine Or.inl ?_
      have H1 := H
      refine hK _ _ ⟨v9, _, v11, v12, v13, v14, v15, v16, v17, v18, v19, v20, v21, v22, v23, v24, v25, v26, v27, v28, v29, v5, rfl, ⟨?_, ?_, ?_, ?_, ?_, ?_, ?_, ?_, ?_, ?_, ?_, ?_, ?_, ?_, ?_, ?_, ?_, ?_, ?_, ?_, ?_, ?_, ?_, ?_, ?_, ?_, ?_, ?_, ?_⟩⟩
      · exact H1.g
      · exact H1.n6
      · exact H1.bx
      · exact by simpa using H1.rs
      · exact H1.p
      · exact by simpa using H1.mem
      · exact fun hl => H1.h0 (by simpa using hl)
      · exact fun _ => rfl
      · exact fun hl => H1.h2 (by simpa using hl)
      · exact fun hl => H1.h3 (by simpa using hl)
      · exact fun hl => H1.h4 (by simpa using hl)
      · exact fun hl => H1.h5 (by simpa using hl)
      · exact fun hl => H1.h6 (by simpa using hl)
      · exact fun hl => H1.h7 (by simpa using hl)
      · exact fun hl => H1.h8 (by simpa using hl)
      · exact fun hl => H1.h9 (by simpa using hl)
      · exact fun hl => H1.h10 (by simpa using hl)
      · exact fun hl => H1.h11 (by simpa using hl)
      · exact fun hl => H1.h12 (by simpa using hl)
      · exact fun hl => H1.h13 (by simpa using hl)
      · exact fun hl => H1.h14 (by simpa using hl)
      · exact fun hl => H1.h15 (by simpa using hl)
      · exact fun hl => H1.h16 (by simpa using hl)
      · exact fun hl => H1.h17 (by simpa using hl)
      · exact fun hl => H1.h18 (by simpa using hl)
      · exact fun hl => H1.h19 (by simpa using hl)
      · exact fun hl => H1.h20 (by simpa using hl)
      · exact fun hl => H1.h22 (by simpa using hl)
      · exact fun hl => by have := H1.o21 (by simpa using hl); simp [this]
    · -- operation 2
      have y1 : L 1 = true := by simp [hp]
      obtain rfl := H.h1 y1
      go_simp
      refine Or.inl ?_
      refine (impl_IsPond.calls a0 p1 _ HP1.out).mono ?_
      rintro e w' ⟨rfl, hbw⟩
      have H1 := H.below hbw
      refine hK _ _ ⟨v9, _, _, v12, v13, v14, v15, v16, v17, v18, v19, v20, v21, v22, v23, v24, v25, v26, v27, v28, v29, v5, rfl, ⟨?_, ?_, ?_, ?_, ?_, ?_, ?_, ?_, ?_, ?_, ?_, ?_, ?_, ?_, ?_, ?_, ?_, ?_, ?_, ?_, ?_, ?_, ?_, ?_, ?_, ?_, ?_, ?_, ?_⟩⟩
      · exact H1.g
      · exact H1.n6
      · exact H1.bx
      · exact by simpa using H1.rs
      · exact H1.p
      · exact by simpa using H1.mem
      · exact fun hl => H1.h0 (by simpa using hl)
      · exact fun hl => H1.h1 (by simpa using hl)
      · exact fun _ => rfl
      · exact fun hl => H1.h3 (by simpa using hl)
      · exact fun hl => H1.h4 (by simpa using hl)
      · exact fun hl => H1.h5 (by simpa using hl)
      · exact fun hl => H1.h6 (by simpa using hl)
      · exact fun hl => H1.h7 (by simpa using hl)
      · exact fun hl => H1.h8 (by simpa using hl)
      · exact fun hl => H1.h9 (by simpa using hl)
      · exact fun hl => H1.h10 (by simpa using hl)
      · exact fun hl => H1.h11 (by simpa using hl)
      · exact fun hl => H1.h12 (by simpa using hl)
      · exact fun hl => H1.h13 (by simpa using hl)
      · exact fun hl => H1.h14 (by simpa using hl)
      · exact fun hl => H1.h15 (by simpa using hl)
      · exact fun hl => H1.h16 (by simpa using hl)
      · exact fun hl => H1.h17 (by simpa using hl)
      · exact fun hl => H1.h18 (by simpa using hl)
      · exact fun hl => H1.h19 (by simpa using hl)
      · exact fun hl => H1.h20 (by simpa using hl)
      · exact fun hl => H1.h22 (by simpa using hl)
      · exact fun hl => by have := H1.o21 (by simpa using hl); simp [this]
    · -- operation 3
      have y2 : L 2 = true := by simp [hp]
      obtain rfl := H.h2 y2
      go_simp
      refine Or.inl ?_
      have H1 := H
      refine hK _ _ ⟨v9, v10, _, _, v13, v14, v15, v16, v17, v18, v19, v20, v21, v22, v23, v24, v25, v26, v27, v28, v29, v5, rfl, ⟨?_, ?_, ?_, ?_, ?_, ?_, ?_, ?_, ?_, ?_, ?_, ?_, ?_, ?_, ?_, ?_, ?_, ?_, ?_, ?_, ?_, ?_, ?_, ?_, ?_, ?_, ?_, ?_, ?_⟩⟩
      · exact H1.g
      · exact H1.n6
      · exact H1.bx
      · exact by simpa using H1.rs
      · exact H1.p
      · exact by simpa using H1.mem
      · exact fun hl => H1.h0 (by simpa using hl)
      · exact fun hl => H1.h1 (by simpa using hl)
      · exact fun hl => H1.h2 (by simpa using hl)
      · exact fun _ => rfl
      · exact fun hl => H1.h4 (by simpa using hl)
      · exact fun hl => H1.h5 (by simpa using hl)
      · exact fun hl => H1.h6 (by simpa using hl)
      · exact fun hl => H1.h7 (by simpa using hl)
      · exact fun hl => H1.h8 (by simpa using hl)
      · exact fun hl => H1.h9 (by simpa using hl)
      · exact fun hl => H1.h10 (by simpa using hl)
      · exact fun hl => H1.h11 (by simpa using hl)
      · exact fun hl => H1.h12 (by simpa using hl)
      · exact fun hl => H1.h13 (by simpa using hl)
      · exact fun hl => H1.h14 (by simpa using hl)
      · exact fun hl => H1.h15 (by simpa using hl)
      · exact fun hl => H1.h16 (by simpa using hl)
      · exact fun hl => H1.h17 (by simpa using hl)
      · exact fun hl => H1.h18 (by simpa using hl)
      · exact fun hl => H1.h19 (by simpa using hl)
      · exact fun hl => H1.h20 (by simpa using hl)
      · exact fun hl => H1.h22 (by simpa using hl)
      · exact fun hl => by have := H1.o21 (by simpa using hl); simp [this]
    · -- operation 4
      have y3 : L 3 = true := by simp [hp]
      obtain rfl := H.h3 y3
      cases p1 with
      | false =>
        go_simp
        have H1 := H
        refine hK _ _ ⟨v9, v10, v11, _, _, v14, v15, v16, v17, v18, v19, v20, v21, v22, v23, v24, v25, v26, v27, v28, v29, v5, rfl, ⟨?_, ?_, ?_, ?_, ?_, ?_, ?_, ?_, ?_, ?_, ?_, ?_, ?_, ?_, ?_, ?_, ?_, ?_, ?_, ?_, ?_, ?_, ?_, ?_, ?_, ?_, ?_, ?_, ?_⟩⟩
        · exact H1.g
        · exact H1.n6
        · exact H1.bx
        · exact by simpa using H1.rs
        · exact H1.p
        · exact by simpa using H1.mem
        · exact fun hl => H1.h0 (by simpa using hl)
        · exact fun hl => H1.h1 (by simpa using hl)
        · exact fun hl => H1.h2 (by simpa using hl)
        · exact fun hl => H1.h3 (by simpa using hl)
        · exact fun _ => by simp
        · exact fun hl => H1.h5 (by simpa using hl)
        · exact fun hl => H1.h6 (by simpa using hl)
        · exact fun hl => H1.h7 (by simpa using hl)
        · exact fun hl => H1.h8 (by simpa using hl)
        · exact fun hl => H1.h9 (by simpa using hl)
        · exact fun hl => H1.h10 (by simpa using hl)
        · exact fun hl => H1.h11 (by simpa using hl)
        · exact fun hl => H1.h12 (by simpa using hl)
        · exact fun hl => H1.h13 (by simpa using hl)
        · exact fun hl => H1.h14 (by simpa using hl)
        · exact fun hl => H1.h15 (by simpa using hl)
        · exact fun hl => H1.h16 (by simpa using hl)
        · exact fun hl => H1.h17 (by simpa using hl)
        · exact fun hl => H1.h18 (by simpa using hl)
        · exact fun hl => H1.h19 (by simpa using hl)
        · exact fun hl => H1.h20 (by simpa using hl)
        · exact fun hl => H1.h22 (by simpa using hl)
        · exact fun hl => by have := H1.o21 (by simpa using hl); simp [this]
      | true =>
        have d0 : Wc.cell? ⟨W.heap.size, 0, none⟩ = some (.string a1) := by rw [blk_cell H.bx]; rfl
        go_simp
        refine Or.inl ?_
        have H1 := H
        refine hK _ _ ⟨v9, v10, v11, _, _, v14, v15, v16, v17, v18, v19, v20, v21, v22, v23, v24, v25, v26, v27, v28, v29, v5, rfl, ⟨?_, ?_, ?_, ?_, ?_, ?_, ?_, ?_, ?_, ?_, ?_, ?_, ?_, ?_, ?_, ?_, ?_, ?_, ?_, ?_, ?_, ?_, ?_, ?_, ?_, ?_, ?_, ?_, ?_⟩⟩
        · exact H1.g
        · exact H1.n6
        · exact H1.bx
        · exact by simpa using H1.rs
        · exact H1.p
        · exact by simpa using H1.mem
        · exact fun hl => H1.h0 (by simpa using hl)
        · exact fun hl => H1.h1 (by simpa using hl)
        · exact fun hl => H1.h2 (by simpa using hl)
        · exact fun hl => H1.h3 (by simpa using hl)
        · exact fun _ => by simp
        · exact fun hl => H1.h5 (by simpa using hl)
        · exact fun hl => H1.h6 (by simpa using hl)
        · exact fun hl => H1.h7 (by simpa using hl)
        · exact fun hl => H1.h8 (by simpa using hl)
        · exact fun hl => H1.h9 (by simpa using hl)
        · exact fun hl => H1.h10 (by simpa using hl)
        · exact fun hl => H1.h11 (by simpa using hl)
        · exact fun hl => H1.h12 (by simpa using hl)
        · exact fun hl => H1.h13 (by simpa using hl)
        · exact fun hl => H1.h14 (by simpa using hl)
        · exact fun hl => H1.h15 (by simpa using hl)
        · exact fun hl => H1.h16 (by simpa using hl)
        · exact fun hl => H1.h17 (by simpa using hl)
        · exact fun hl => H1.h18 (by simpa using hl)
        · exact fun hl => H1.h19 (by simpa using hl)
        · exact fun hl => H1.h20 (by simpa using hl)
        · exact fun hl => H1.h22 (by simpa using hl)
        · exact fun hl => by have := H1.o21 (by simpa using hl); simp [this]
    · -- operation 5
      have y3 : L 3 = true := by simp [hp]
      obtain rfl := H.h3 y3
      cases p1 with
      | false =>
        go_simp
        have H1 := H
        refine hK _ _ ⟨v9, v10, v11, _, v13, _, v15, v16, v17, v18, v19, v20, v21, v22, v23, v24, v25, v26, v27, v28, v29, v5, rfl, ⟨?_, ?_, ?_, ?_, ?_, ?_, ?_, ?_, ?_, ?_, ?_, ?_, ?_, ?_, ?_, ?_, ?_, ?_, ?_, ?_, ?_, ?_, ?_, ?_, ?_, ?_, ?_, ?_, ?_⟩⟩
        · exact H1.g
        · exact H1.n6
        · exact H1.bx
        · exact by simpa using H1.rs
        · exact H1.p
        · exact by simpa using H1.mem
        · exact fun hl => H1.h0 (by simpa using hl)
        · exact fun hl => H1.h1 (by simpa using hl)
        · exact fun hl => H1.h2 (by simpa using hl)
        · exact fun hl => H1.h3 (by simpa using hl)
        · exact fun hl => H1.h4 (by simpa using hl)
        · exact fun _ => by simp
        · exact fun hl => H1.h6 (by simpa using hl)
        · exact fun hl => H1.h7 (by simpa using hl)
        · exact fun hl => H1.h8 (by simpa using hl)
        · exact fun hl => H1.h9 (by simpa using hl)
        · exact fun hl => H1.h10 (by simpa using hl)
        · exact fun hl => H1.h11 (by simpa using hl)
        · exact fun hl => H1.h12 (by simpa using hl)
        · exact fun hl => H1.h13 (by simpa using hl)
        · exact fun hl => H1.h14 (by simpa using hl)
        · exact fun hl => H1.h15 (by simpa using hl)
        · exact fun hl => H1.h16 (by simpa using hl)
        · exact fun hl => H1.h17 (by simpa using hl)
        · exact fun hl => H1.h18 (by simpa using hl)
        · exact fun hl => H1.h19 (by simpa using hl)
        · exact fun hl => H1.h20 (by simpa using hl)
        · exact fun hl => H1.h22 (by simpa using hl)
        · exact fun hl => by have := H1.o21 (by simpa using hl); simp [this]
      | true =>
        have y4 : L 4 = true := by simp [hp]
        have e4 := H.h4 y4
        rw [if_pos rfl] at e4
        subst e4
        go_simp
        refine Or.inl ?_
        refine (impl_IsPond.calls a1 b2 _ (HP2.out rfl)).mono ?_
        rintro e w' ⟨rfl, hbw⟩
        have H1 := H.below hbw
        refine hK _ _ ⟨v9, v10, v11, _, _, _, v15, v16, v17, v18, v19, v20, v21, v22, v23, v24, v25, v26, v27, v28, v29, v5, rfl, ⟨?_, ?_, ?_, ?_, ?_, ?_, ?_, ?_, ?_, ?_, ?_, ?_, ?_, ?_, ?_, ?_, ?_, ?_, ?_, ?_, ?_, ?_, ?_, ?_, ?_, ?_, ?_, ?_, ?_⟩⟩
        · exact H1.g
        · exact H1.n6
        · exact H1.bx
        · exact by simpa using H1.rs
        · exact H1.p
        · exact by simpa using H1.mem
        · exact fun hl => H1.h0 (by simpa using hl)
        · exact fun hl => H1.h1 (by simpa using hl)
        · exact fun hl => H1.h2 (by simpa using hl)
        · exact fun hl => H1.h3 (by simpa using hl)
        · exact fun _ => by simp
        · exact fun _ => by simp
        · exact fun hl => H1.h6 (by simpa using hl)
        · exact fun hl => H1.h7 (by simpa using hl)
        · exact fun hl => H1.h8 (by simpa using hl)
        · exact fun hl => H1.h9 (by simpa using hl)
        · exact fun hl => H1.h10 (by simpa using hl)
        · exact fun hl => H1.h11 (by simpa using hl)
        · exact fun hl => H1.h12 (by simpa using hl)
        · exact fun hl => H1.h13 (by simpa using hl)
        · exact fun hl => H1.h14 (by simpa using hl)
        · exact fun hl => H1.h15 (by simpa using hl)
        · exact fun hl => H1.h16 (by simpa using hl)
        · exact fun hl => H1.h17 (by simpa using hl)
        · exact fun hl => H1.h18 (by simpa using hl)
        · exact fun hl => H1.h19 (by simpa using hl)
        · exact fun hl => H1.h20 (by simpa using hl)
        · exact fun hl => H1.h22 (by simpa using hl)
        · exact fun hl => by have := H1.o21 (by simpa using hl); simp [this]
    · -- operation 6
      have y3 : L 3 = true := by simp [hp]
      obtain rfl := H.h3 y3
      have y5 : L 5 = true := by simp [hp]
      have e5 := H.h5 y5
      cases p1 with
      | false =>
        rw [if_neg (by decide)] at e5
        subst e5
        go_simp
        refine Or.inl ?_
        have H1 := H
        refine hK _ _ ⟨v9, v10, v11, _, v13, _, _, v16, v17, v18, v19, v20, v21, v22, v23, v24, v25, v26, v27, v28, v29, v5, rfl, ⟨?_, ?_, ?_, ?_, ?_, ?_, ?_, ?_, ?_, ?_, ?_, ?_, ?_, ?_, ?_, ?_, ?_, ?_, ?_, ?_, ?_, ?_, ?_, ?_, ?_, ?_, ?_, ?_, ?_⟩⟩
        · exact H1.g
        · exact H1.n6
        · exact H1.bx
        · exact by simpa using H1.rs
        · exact H1.p
        · exact by simpa using H1.mem
        · exact fun hl => H1.h0 (by simpa using hl)
        · exact fun hl => H1.h1 (by simpa using hl)
        · exact fun hl => H1.h2 (by simpa using hl)
        · exact fun hl => H1.h3 (by simpa using hl)
        · exact fun hl => H1.h4 (by simpa using hl)
        · exact fun _ => by simp
        · exact fun _ => by rw [HQ2.out]; rfl
        · exact fun hl => H1.h7 (by simpa using hl)
        · exact fun hl => H1.h8 (by simpa using hl)
        · exact fun hl => H1.h9 (by simpa using hl)
        · exact fun hl => H1.h10 (by simpa using hl)
        · exact fun hl => H1.h11 (by simpa using hl)
        · exact fun hl => H1.h12 (by simpa using hl)
        · exact fun hl => H1.h13 (by simpa using hl)
        · exact fun hl => H1.h14 (by simpa using hl)
        · exact fun hl => H1.h15 (by simpa using hl)
        · exact fun hl => H1.h16 (by simpa using hl)
        · exact fun hl => H1.h17 (by simpa using hl)
        · exact fun hl => H1.h18 (by simpa using hl)
        · exact fun hl => H1.h19 (by simpa using hl)
        · exact fun hl => H1.h20 (by simpa using hl)
        · exact fun hl => H1.h22 (by simpa using hl)
        · exact fun hl => by have := H1.o21 (by simpa using hl); simp [this]
      | true =>
        rw [if_pos rfl] at e5
        subst e5
        go_simp
        refine Or.inl ?_
        have H1 := H
        refine hK _ _ ⟨v9, v10, v11, _, v13, _, _, v16, v17, v18, v19, v20, v21, v22, v23, v24, v25, v26, v27, v28, v29, v5, rfl, ⟨?_, ?_, ?_, ?_, ?_, ?_, ?_, ?_, ?_, ?_, ?_, ?_, ?_, ?_, ?_, ?_, ?_, ?_, ?_, ?_, ?_, ?_, ?_, ?_, ?_, ?_, ?_, ?_, ?_⟩⟩
        · exact H1.g
        · exact H1.n6
        · exact H1.bx
        · exact by simpa using H1.rs
        · exact H1.p
        · exact by simpa using H1.mem
        · exact fun hl => H1.h0 (by simpa using hl)
        · exact fun hl => H1.h1 (by simpa using hl)
        · exact fun hl => H1.h2 (by simpa using hl)
        · exact fun hl => H1.h3 (by simpa using hl)
        · exact fun hl => H1.h4 (by simpa using hl)
        · exact fun _ => by simp
        · exact fun _ => by rw [HQ2.out]; rfl
        · exact fun hl => H1.h7 (by simpa using hl)
        · exact fun hl => H1.h8 (by simpa using hl)
        · exact fun hl => H1.h9 (by simpa using hl)
        · exact fun hl => H1.h10 (by simpa using hl)
        · exact fun hl => H1.h11 (by simpa using hl)
        · exact fun hl => H1.h12 (by simpa using hl)
        · exact fun hl => H1.h13 (by simpa using hl)
        · exact fun hl => H1.h14 (by simpa using hl)
        · exact fun hl => H1.h15 (by simpa using hl)
        · exact fun hl => H1.h16 (by simpa using hl)
        · exact fun hl => H1.h17 (by simpa using hl)
        · exact fun hl => H1.h18 (by simpa using hl)
        · exact fun hl => H1.h19 (by simpa using hl)
        · exact fun hl => H1.h20 (by simpa using hl)
        · exact fun hl => H1.h22 (by simpa using hl)
        · exact fun hl => by have := H1.o21 (by simpa using hl); simp [this]
    · -- operation 7
      have y6 : L 6 = true := by simp [hp]
      obtain rfl := H.h6 y6
      go_simp
      refine Or.inl ?_
      have H1 := H
      refine hK _ _ ⟨v9, v10, v11, v12, v13, v14, _, _, v17, v18, v19, v20, v21, v22, v23, v24, v25, v26, v27, v28, v29, v5, rfl, ⟨?_, ?_, ?_, ?_, ?_, ?_, ?_, ?_, ?_, ?_, ?_, ?_, ?_, ?_, ?_, ?_, ?_, ?_, ?_, ?_, ?_, ?_, ?_, ?_, ?_, ?_, ?_, ?_, ?_⟩⟩
      · exact H1.g
      · exact H1.n6
      · exact H1.bx
      · exact by simpa using H1.rs
      · exact H1.p
      · exact by simpa using H1.mem
      · exact fun hl => H1.h0 (by simpa using hl)
      · exact fun hl => H1.h1 (by simpa using hl)
      · exact fun hl => H1.h2 (by simpa using hl)
      · exact fun hl => H1.h3 (by simpa using hl)
      · exact fun hl => H1.h4 (by simpa using hl)
      · exact fun hl => H1.h5 (by simpa using hl)
      · exact fun hl => H1.h6 (by simpa using hl)
      · exact fun _ => rfl
      · exact fun hl => H1.h8 (by simpa using hl)
      · exact fun hl => H1.h9 (by simpa using hl)
      · exact fun hl => H1.h10 (by simpa using hl)
      · exact fun hl => H1.h11 (by simpa using hl)
      · exact fun hl => H1.h12 (by simpa using hl)
      · exact fun hl => H1.h13 (by simpa using hl)
      · exact fun hl => H1.h14 (by simpa using hl)
      · exact fun hl => H1.h15 (by simpa using hl)
      · exact fun hl => H1.h16 (by simpa using hl)
      · exact fun hl => H1.h17 (by simpa using hl)
      · exact fun hl => H1.h18 (by simpa using hl)
      · exact fun hl => H1.h19 (by simpa using hl)
      · exact fun hl => H1.h20 (by simpa using hl)
      · exact fun hl => H1.h22 (by simpa using hl)
      · exact fun hl => by have := H1.o21 (by simpa using hl); simp [this]
    · -- operation 8
      have y7 : L 7 = true := by simp [hp]
      obtain rfl := H.h7 y7
      cases q2 with
      | false =>
        go_simp
        have H1 := H
        refine hK _ _ ⟨v9, v10, v11, v12, v13, v14, v15, _, _, v18, v19, v20, v21, v22, v23, v24, v25, v26, v27, v28, v29, v5, rfl, ⟨?_, ?_, ?_, ?_, ?_, ?_, ?_, ?_, ?_, ?_, ?_, ?_, ?_, ?_, ?_, ?_, ?_, ?_, ?_, ?_, ?_, ?_, ?_, ?_, ?_, ?_, ?_, ?_, ?_⟩⟩
        · exact H1.g
        · exact H1.n6
        · exact H1.bx
        · exact by simpa using H1.rs
        · exact H1.p
        · exact by simpa using H1.mem
        · exact fun hl => H1.h0 (by simpa using hl)
        · exact fun hl => H1.h1 (by simpa using hl)
        · exact fun hl => H1.h2 (by simpa using hl)
        · exact fun hl => H1.h3 (by simpa using hl)
        · exact fun hl => H1.h4 (by simpa using hl)
        · exact fun hl => H1.h5 (by simpa using hl)
        · exact fun hl => H1.h6 (by simpa using hl)
        · exact fun hl => H1.h7 (by simpa using hl)
        · exact fun _ => by simp
        · exact fun hl => H1.h9 (by simpa using hl)
        · exact fun hl => H1.h10 (by simpa using hl)
        · exact fun hl => H1.h11 (by simpa using hl)
        · exact fun hl => H1.h12 (by simpa using hl)
        · exact fun hl => H1.h13 (by simpa using hl)
        · exact fun hl => H1.h14 (by simpa using hl)
        · exact fun hl => H1.h15 (by simpa using hl)
        · exact fun hl => H1.h16 (by simpa using hl)
        · exact fun hl => H1.h17 (by simpa using hl)
        · exact fun hl => H1.h18 (by simpa using hl)
        · exact fun hl => H1.h19 (by simpa using hl)
        · exact fun hl => H1.h20 (by simpa using hl)
        · exact fun hl => H1.h22 (by simpa using hl)
        · exact fun hl => by have := H1.o21 (by simpa using hl); simp [this]
      | true =>
        go_simp
        refine Or.inl ?_
        have H1 := H
        refine hK _ _ ⟨v9, v10, v11, v12, v13, v14, v15, _, _, v18, v19, v20, v21, v22, v23, v24, v25, v26, v27, v28, v29, v5, rfl, ⟨?_, ?_, ?_, ?_, ?_, ?_, ?_, ?_, ?_, ?_, ?_, ?_, ?_, ?_, ?_, ?_, ?_, ?_, ?_, ?_, ?_, ?_, ?_, ?_, ?_, ?_, ?_, ?_, ?_⟩⟩
        · exact H1.g
        · exact H1.n6
        · exact H1.bx
        · exact by simpa using H1.rs
        · exact H1.p
        · exact by simpa using H1.mem
        · exact fun hl => H1.h0 (by simpa using hl)
        · exact fun hl => H1.h1 (by simpa using hl)
        · exact fun hl => H1.h2 (by simpa using hl)
        · exact fun hl => H1.h3 (by simpa using hl)
        · exact fun hl => H1.h4 (by simpa using hl)
        · exact fun hl => H1.h5 (by simpa using hl)
        · exact fun hl => H1.h6 (by simpa using hl)
        · exact fun hl => H1.h7 (by simpa using hl)
        · exact fun _ => by simp
        · exact fun hl => H1.h9 (by simpa using hl)
        · exact fun hl => H1.h10 (by simpa using hl)
        · exact fun hl => H1.h11 (by simpa using hl)
        · exact fun hl => H1.h12 (by simpa using hl)
        · exact fun hl => H1.h13 (by simpa using hl)
        · exact fun hl => H1.h14 (by simpa using hl)
        · exact fun hl => H1.h15 (by simpa using hl)
        · exact fun hl => H1.h16 (by simpa using hl)
        · exact fun hl => H1.h17 (by simpa using hl)
        · exact fun hl => H1.h18 (by simpa using hl)
        · exact fun hl => H1.h19 (by simpa using hl)
        · exact fun hl => H1.h20 (by simpa using hl)
        · exact fun hl => H1.h22 (by simpa using hl)
        · exact fun hl => by have := H1.o21 (by simpa using hl); simp [this]
    · -- operation 9
      have y7 : L 7 = true := by simp [hp]
      obtain rfl := H.h7 y7
      cases q2 with
      | false =>
        go_simp
        have H1 := H
        refine hK _ _ ⟨v9, v10, v11, v12, v13, v14, v15, _, v17, _, v19, v20, v21, v22, v23, v24, v25, v26, v27, v28, v29, v5, rfl, ⟨?_, ?_, ?_, ?_, ?_, ?_, ?_, ?_, ?_, ?_, ?_, ?_, ?_, ?_, ?_, ?_, ?_, ?_, ?_, ?_, ?_, ?_, ?_, ?_, ?_, ?_, ?_, ?_, ?_⟩⟩
        · exact H1.g
        · exact H1.n6
        · exact H1.bx
        · exact by simpa using H1.rs
        · exact H1.p
        · exact by simpa using H1.mem
        · exact fun hl => H1.h0 (by simpa using hl)
        · exact fun hl => H1.h1 (by simpa using hl)
        · exact fun hl => H1.h2 (by simpa using hl)
        · exact fun hl => H1.h3 (by simpa using hl)
        · exact fun hl => H1.h4 (by simpa using hl)
        · exact fun hl => H1.h5 (by simpa using hl)
        · exact fun hl => H1.h6 (by simpa using hl)
        · exact fun hl => H1.h7 (by simpa using hl)
        · exact fun hl => H1.h8 (by simpa using hl)
        · exact fun _ => by simp
        · exact fun hl => H1.h10 (by simpa using hl)
        · exact fun hl => H1.h11 (by simpa using hl)
        · exact fun hl => H1.h12 (by simpa using hl)
        · exact fun hl => H1.h13 (by simpa using hl)
        · exact fun hl => H1.h14 (by simpa using hl)
        · exact fun hl => H1.h15 (by simpa using hl)
        · exact fun hl => H1.h16 (by simpa using hl)
        · exact fun hl => H1.h17 (by simpa using hl)
        · exact fun hl => H1.h18 (by simpa using hl)
        · exact fun hl => H1.h19 (by simpa using hl)
        · exact fun hl => H1.h20 (by simpa using hl)
        · exact fun hl => H1.h22 (by simpa using hl)
        · exact fun hl => by have := H1.o21 (by simpa using hl); simp [this]
      | true =>
        have y8 : L 8 = true := by simp [hp]
        have e8 := H.h8 y8
        rw [if_pos rfl] at e8
        subst e8
        go_simp
        refine Or.inl ?_
        have H1 := H
        refine hK _ _ ⟨v9, v10, v11, v12, v13, v14, v15, _, _, _, v19, v20, v21, v22, v23, v24, v25, v26, v27, v28, v29, v5, rfl, ⟨?_, ?_, ?_, ?_, ?_, ?_, ?_, ?_, ?_, ?_, ?_, ?_, ?_, ?_, ?_, ?_, ?_, ?_, ?_, ?_, ?_, ?_, ?_, ?_, ?_, ?_, ?_, ?_, ?_⟩⟩
        · exact H1.g
        · exact H1.n6
        · exact H1.bx
        · exact by simpa using H1.rs
        · exact H1.p
        · exact by simpa using H1.mem
        · exact fun hl => H1.h0 (by simpa using hl)
        · exact fun hl => H1.h1 (by simpa using hl)
        · exact fun hl => H1.h2 (by simpa using hl)
        · exact fun hl => H1.h3 (by simpa using hl)
        · exact fun hl => H1.h4 (by simpa using hl)
        · exact fun hl => H1.h5 (by simpa using hl)
        · exact fun hl => H1.h6 (by simpa using hl)
        · exact fun hl => H1.h7 (by simpa using hl)
        · exact fun _ => by simp
        · exact fun _ => by simp
        · exact fun hl => H1.h10 (by simpa using hl)
        · exact fun hl => H1.h11 (by simpa using hl)
        · exact fun hl => H1.h12 (by simpa using hl)
        · exact fun hl => H1.h13 (by simpa using hl)
        · exact fun hl => H1.h14 (by simpa using hl)
        · exact fun hl => H1.h15 (by simpa using hl)
        · exact fun hl => H1.h16 (by simpa using hl)
        · exact fun hl => H1.h17 (by simpa using hl)
        · exact fun hl => H1.h18 (by simpa using hl)
        · exact fun hl => H1.h19 (by simpa using hl)
        · exact fun hl => H1.h20 (by simpa using hl)
        · exact fun hl => H1.h22 (by simpa using hl)
        · exact fun hl => by have := H1.o21 (by simpa using hl); simp [this]
    · -- operation 10
      have y7 : L 7 = true := by simp [hp]
      obtain rfl := H.h7 y7
      cases q2 with
      | false =>
        go_simp
        have H1 := H
        refine hK _ _ ⟨v9, v10, v11, v12, v13, v14, v15, _, v17, v18, _, v20, v21, v22, v23, v24, v25, v26, v27, v28, v29, v5, rfl, ⟨?_, ?_, ?_, ?_, ?_, ?_, ?_, ?_, ?_, ?_, ?_, ?_, ?_, ?_, ?_, ?_, ?_, ?_, ?_, ?_, ?_, ?_, ?_, ?_, ?_, ?_, ?_, ?_, ?_⟩⟩
        · exact H1.g
        · exact H1.n6
        · exact H1.bx
        · exact by simpa using H1.rs
        · exact H1.p
        · exact by simpa using H1.mem
        · exact fun hl => H1.h0 (by simpa using hl)
        · exact fun hl => H1.h1 (by simpa using hl)
        · exact fun hl => H1.h2 (by simpa using hl)
        · exact fun hl => H1.h3 (by simpa using hl)
        · exact fun hl => H1.h4 (by simpa using hl)
        · exact fun hl => H1.h5 (by simpa using hl)
        · exact fun hl => H1.h6 (by simpa using hl)
        · exact fun hl => H1.h7 (by simpa using hl)
        · exact fun hl => H1.h8 (by simpa using hl)
        · exact fun hl => H1.h9 (by simpa using hl)
        · exact fun _ => by simp
        · exact fun hl => H1.h11 (by simpa using hl)
        · exact fun hl => H1.h12 (by simpa using hl)
        · exact fun hl => H1.h13 (by simpa using hl)
        · exact fun hl => H1.h14 (by simpa using hl)
        · exact fun hl => H1.h15 (by simpa using hl)
        · exact fun hl => H1.h16 (by simpa using hl)
        · exact fun hl => H1.h17 (by simpa using hl)
        · exact fun hl => H1.h18 (by simpa using hl)
        · exact fun hl => H1.h19 (by simpa using hl)
        · exact fun hl => H1.h20 (by simpa using hl)
        · exact fun hl => H1.h22 (by simpa using hl)
        · exact fun hl => by have := H1.o21 (by simpa using hl); simp [this]
      | true =>
        have d0 : Wc.cell? ⟨W.heap.size, 0, none⟩ = some (.string a1) := by rw [blk_cell H.bx]; rfl
        go_simp
        refine Or.inl ?_
        have H1 := H
        refine hK _ _ ⟨v9, v10, v11, v12, v13, v14, v15, _, v17, v18, _, v20, v21, v22, v23, v24, v25, v26, v27, v28, v29, v5, rfl, ⟨?_, ?_, ?_, ?_, ?_, ?_, ?_, ?_, ?_, ?_, ?_, ?_, ?_, ?_, ?_, ?_, ?_, ?_, ?_, ?_, ?_, ?_, ?_, ?_, ?_, ?_, ?_, ?_, ?_⟩⟩
        · exact H1.g
        · exact H1.n6
        · exact H1.bx
        · exact by simpa using H1.rs
        · exact H1.p
        · exact by simpa using H1.mem
        · exact fun hl => H1.h0 (by simpa using hl)
        · exact fun hl => H1.h1 (by simpa using hl)
        · exact fun hl => H1.h2 (by simpa using hl)
        · exact fun hl => H1.h3 (by simpa using hl)
        · exact fun hl => H1.h4 (by simpa using hl)
        · exact fun hl => H1.h5 (by simpa using hl)
        · exact fun hl => H1.h6 (by simpa using hl)
        · exact fun hl => H1.h7 (by simpa using hl)
        · exact fun hl => H1.h8 (by simpa using hl)
        · exact fun hl => H1.h9 (by simpa using hl)
        · exact fun _ => by simp
        · exact fun hl => H1.h11 (by simpa using hl)
        · exact fun hl => H1.h12 (by simpa using hl)
        · exact fun hl => H1.h13 (by simpa using hl)
        · exact fun hl => H1.h14 (by simpa using hl)
        · exact fun hl => H1.h15 (by simpa using hl)
        · exact fun hl => H1.h16 (by simpa using hl)
        · exact fun hl => H1.h17 (by simpa using hl)
        · exact fun hl => H1.h18 (by simpa using hl)
        · exact fun hl => H1.h19 (by simpa using hl)
        · exact fun hl => H1.h20 (by simpa using hl)
        · exact fun hl => H1.h22 (by simpa using hl)
        · exact fun hl => by have := H1.o21 (by simpa using hl); simp [this]
    · -- operation 11
      have y7 : L 7 = true := by simp [hp]
      obtain rfl := H.h7 y7
      cases q2 with
      | false =>
        go_simp
        have H1 := H
        refine hK _ _ ⟨v9, v10, v11, v12, v13, v14, v15, _, v17, v18, v19, _, v21, v22, v23, v24, v25, v26, v27, v28, v29, v5, rfl, ⟨?_, ?_, ?_, ?_, ?_, ?_, ?_, ?_, ?_, ?_, ?_, ?_, ?_, ?_, ?_, ?_, ?_, ?_, ?_, ?_, ?_, ?_, ?_, ?_, ?_, ?_, ?_, ?_, ?_⟩⟩
        · exact H1.g
        · exact H1.n6
        · exact H1.bx
        · exact by simpa using H1.rs
        · exact H1.p
        · exact by simpa using H1.mem
        · exact fun hl => H1.h0 (by simpa using hl)
        · exact fun hl => H1.h1 (by simpa using hl)
        · exact fun hl => H1.h2 (by simpa using hl)
        · exact fun hl => H1.h3 (by simpa using hl)
        · exact fun hl => H1.h4 (by simpa using hl)
        · exact fun hl => H1.h5 (by simpa using hl)
        · exact fun hl => H1.h6 (by simpa using hl)
        · exact fun hl => H1.h7 (by simpa using hl)
        · exact fun hl => H1.h8 (by simpa using hl)
        · exact fun hl => H1.h9 (by simpa using hl)
        · exact fun hl => H1.h10 (by simpa using hl)
        · exact fun _ => by simp
        · exact fun hl => H1.h12 (by simpa using hl)
        · exact fun hl => H1.h13 (by simpa using hl)
        · exact fun hl => H1.h14 (by simpa using hl)
        · exact fun hl => H1.h15 (by simpa using hl)
        · exact fun hl => H1.h16 (by simpa using hl)
        · exact fun hl => H1.h17 (by simpa using hl)
        · exact fun hl => H1.h18 (by simpa using hl)
        · exact fun hl => H1.h19 (by simpa using hl)
        · exact fun hl => H1.h20 (by simpa using hl)
        · exact fun hl => H1.h22 (by simpa using hl)
        · exact fun hl => by have := H1.o21 (by simpa using hl); simp [this]
      | true =>
        have y10 : L 10 = true := by simp [hp]
        have e10 := H.h10 y10
        rw [if_pos rfl] at e10
        subst e10
        go_simp
        refine Or.inl ?_
        have H1 := H
        refine hK _ _ ⟨v9, v10, v11, v12, v13, v14, v15, _, v17, v18, _, _, v21, v22, v23, v24, v25, v26, v27, v28, v29, v5, rfl, ⟨?_, ?_, ?_, ?_, ?_, ?_, ?_, ?_, ?_, ?_, ?_, ?_, ?_, ?_, ?_, ?_, ?_, ?_, ?_, ?_, ?_, ?_, ?_, ?_, ?_, ?_, ?_, ?_, ?_⟩⟩
        · exact H1.g
        · exact H1.n6
        · exact H1.bx
        · exact by simpa using H1.rs
        · exact H1.p
        · exact by simpa using H1.mem
        · exact fun hl => H1.h0 (by simpa using hl)
        · exact fun hl => H1.h1 (by simpa using hl)
        · exact fun hl => H1.h2 (by simpa using hl)
        · exact fun hl => H1.h3 (by simpa using hl)
        · exact fun hl => H1.h4 (by simpa using hl)
        · exact fun hl => H1.h5 (by simpa using hl)
        · exact fun hl => H1.h6 (by simpa using hl)
        · exact fun hl => H1.h7 (by simpa using hl)
        · exact fun hl => H1.h8 (by simpa using hl)
        · exact fun hl => H1.h9 (by simpa using hl)
        · exact fun _ => by simp
        · exact fun _ => by simp
        · exact fun hl => H1.h12 (by simpa using hl)
        · exact fun hl => H1.h13 (by simpa using hl)
        · exact fun hl => H1.h14 (by simpa using hl)
        · exact fun hl => H1.h15 (by simpa using hl)
        · exact fun hl => H1.h16 (by simpa using hl)
        · exact fun hl => H1.h17 (by simpa using hl)
        · exact fun hl => H1.h18 (by simpa using hl)
        · exact fun hl => H1.h19 (by simpa using hl)
        · exact fun hl => H1.h20 (by simpa using hl)
        · exact fun hl => H1.h22 (by simpa using hl)
        · exact fun hl => by have := H1.o21 (by simpa using hl); simp [this]
    · -- operation 12
      have y7 : L 7 = true := by simp [hp]
      obtain rfl := H.h7 y7
      cases q2 with
      | false =>
        go_simp
        have H1 := H
        refine hK _ _ ⟨v9, v10, v11, v12, v13, v14, v15, _, v17, v18, v19, v20, _, v22, v23, v24, v25, v26, v27, v28, v29, v5, rfl, ⟨?_, ?_, ?_, ?_, ?_, ?_, ?_, ?_, ?_, ?_, ?_, ?_, ?_, ?_, ?_, ?_, ?_, ?_, ?_, ?_, ?_, ?_, ?_, ?_, ?_, ?_, ?_, ?_, ?_⟩⟩
        · exact H1.g
        · exact H1.n6
        · exact H1.bx
        · exact by simpa using H1.rs
        · exact H1.p
        · exact by simpa using H1.mem
        · exact fun hl => H1.h0 (by simpa using hl)
        · exact fun hl => H1.h1 (by simpa using hl)
        · exact fun hl => H1.h2 (by simpa using hl)
        · exact fun hl => H1.h3 (by simpa using hl)
        · exact fun hl => H1.h4 (by simpa using hl)
        · exact fun hl => H1.h5 (by simpa using hl)
        · exact fun hl => H1.h6 (by simpa using hl)
        · exact fun hl => H1.h7 (by simpa using hl)
        · exact fun hl => H1.h8 (by simpa using hl)
        · exact fun hl => H1.h9 (by simpa using hl)
        · exact fun hl => H1.h10 (by simpa using hl)
        · exact fun hl => H1.h11 (by simpa using hl)
        · exact fun _ => by simp
        · exact fun hl => H1.h13 (by simpa using hl)
        · exact fun hl => H1.h14 (by simpa using hl)
        · exact fun hl => H1.h15 (by simpa using hl)
        · exact fun hl => H1.h16 (by simpa using hl)
        · exact fun hl => H1.h17 (by simpa using hl)
        · exact fun hl => H1.h18 (by simpa using hl)
        · exact fun hl => H1.h19 (by simpa using hl)
        · exact fun hl => H1.h20 (by simpa using hl)
        · exact fun hl => H1.h22 (by simpa using hl)
        · exact fun hl => by have := H1.o21 (by simpa using hl); simp [this]
      | true =>
        have y9 : L 9 = true := by simp [hp]
        have e9 := H.h9 y9
        rw [if_pos rfl] at e9
        subst e9
        have y11 : L 11 = true := by simp [hp]
        have e11 := H.h11 y11
        rw [if_pos rfl] at e11
        subst e11
        have hb3 := HB3.out
        go_simp
        refine Or.inl ?_
        have H1 := H
        refine hK _ _ ⟨v9, v10, v11, v12, v13, v14, v15, _, v17, _, v19, _, _, v22, v23, v24, v25, v26, v27, v28, v29, v5, rfl, ⟨?_, ?_, ?_, ?_, ?_, ?_, ?_, ?_, ?_, ?_, ?_, ?_, ?_, ?_, ?_, ?_, ?_, ?_, ?_, ?_, ?_, ?_, ?_, ?_, ?_, ?_, ?_, ?_, ?_⟩⟩
        · exact H1.g
        · exact H1.n6
        · exact H1.bx
        · exact by simpa using H1.rs
        · exact H1.p
        · exact by simpa using H1.mem
        · exact fun hl => H1.h0 (by simpa using hl)
        · exact fun hl => H1.h1 (by simpa using hl)
        · exact fun hl => H1.h2 (by simpa using hl)
        · exact fun hl => H1.h3 (by simpa using hl)
        · exact fun hl => H1.h4 (by simpa using hl)
        · exact fun hl => H1.h5 (by simpa using hl)
        · exact fun hl => H1.h6 (by simpa using hl)
        · exact fun hl => H1.h7 (by simpa using hl)
        · exact fun hl => H1.h8 (by simpa using hl)
        · exact fun _ => by simp
        · exact fun hl => H1.h10 (by simpa using hl)
        · exact fun _ => by simp
        · exact fun _ => by simp [HB3.out]
        · exact fun hl => H1.h13 (by simpa using hl)
        · exact fun hl => H1.h14 (by simpa using hl)
        · exact fun hl => H1.h15 (by simpa using hl)
        · exact fun hl => H1.h16 (by simpa using hl)
        · exact fun hl => H1.h17 (by simpa using hl)
        · exact fun hl => H1.h18 (by simpa using hl)
        · exact fun hl => H1.h19 (by simpa using hl)
        · exact fun hl => H1.h20 (by simpa using hl)
        · exact fun hl => H1.h22 (by simpa using hl)
        · exact fun hl => by have := H1.o21 (by simpa using hl); simp [this]
    · -- operation 13
      have y7 : L 7 = true := by simp [hp]
      obtain rfl := H.h7 y7
      have y12 : L 12 = true := by simp [hp]
      have e5 := H.h12 y12
      cases q2 with
      | false =>
        rw [if_neg (by decide)] at e5
        subst e5
        go_simp
        refine Or.inl ?_
        have H1 := H
        refine hK _ _ ⟨v9, v10, v11, v12, v13, v14, v15, _, v17, v18, v19, v20, _, _, v23, v24, v25, v26, v27, v28, v29, v5, rfl, ⟨?_, ?_, ?_, ?_, ?_, ?_, ?_, ?_, ?_, ?_, ?_, ?_, ?_, ?_, ?_, ?_, ?_, ?_, ?_, ?_, ?_, ?_, ?_, ?_, ?_, ?_, ?_, ?_, ?_⟩⟩
        · exact H1.g
        · exact H1.n6
        · exact H1.bx
        · exact by simpa using H1.rs
        · exact H1.p
        · exact by simpa using H1.mem
        · exact fun hl => H1.h0 (by simpa using hl)
        · exact fun hl => H1.h1 (by simpa using hl)
        · exact fun hl => H1.h2 (by simpa using hl)
        · exact fun hl => H1.h3 (by simpa using hl)
        · exact fun hl => H1.h4 (by simpa using hl)
        · exact fun hl => H1.h5 (by simpa using hl)
        · exact fun hl => H1.h6 (by simpa using hl)
        · exact fun hl => H1.h7 (by simpa using hl)
        · exact fun hl => H1.h8 (by simpa using hl)
        · exact fun hl => H1.h9 (by simpa using hl)
        · exact fun hl => H1.h10 (by simpa using hl)
        · exact fun hl => H1.h11 (by simpa using hl)
        · exact fun _ => by simp
        · exact fun _ => by rw [HQ3.out]; rfl
        · exact fun hl => H1.h14 (by simpa using hl)
        · exact fun hl => H1.h15 (by simpa using hl)
        · exact fun hl => H1.h16 (by simpa using hl)
        · exact fun hl => H1.h17 (by simpa using hl)
        · exact fun hl => H1.h18 (by simpa using hl)
        · exact fun hl => H1.h19 (by simpa using hl)
        · exact fun hl => H1.h20 (by simpa using hl)
        · exact fun hl => H1.h22 (by simpa using hl)
        · exact fun hl => by have := H1.o21 (by simpa using hl); simp [this]
      | true =>
        rw [if_pos rfl] at e5
        subst e5
        go_simp
        refine Or.inl ?_
        have H1 := H
        refine hK _ _ ⟨v9, v10, v11, v12, v13, v14, v15, _, v17, v18, v19, v20, _, _, v23, v24, v25, v26, v27, v28, v29, v5, rfl, ⟨?_, ?_, ?_, ?_, ?_, ?_, ?_, ?_, ?_, ?_, ?_, ?_, ?_, ?_, ?_, ?_, ?_, ?_, ?_, ?_, ?_, ?_, ?_, ?_, ?_, ?_, ?_, ?_, ?_⟩⟩
        · exact H1.g
        · exact H1.n6
        · exact H1.bx
        · exact by simpa using H1.rs
        · exact H1.p
        · exact by simpa using H1.mem
        · exact fun hl => H1.h0 (by simpa using hl)
        · exact fun hl => H1.h1 (by simpa using hl)
        · exact fun hl => H1.h2 (by simpa using hl)
        · exact fun hl => H1.h3 (by simpa using hl)
        · exact fun hl => H1.h4 (by simpa using hl)
        · exact fun hl => H1.h5 (by simpa using hl)
        · exact fun hl => H1.h6 (by simpa using hl)
        · exact fun hl => H1.h7 (by simpa using hl)
        · exact fun hl => H1.h8 (by simpa using hl)
        · exact fun hl => H1.h9 (by simpa using hl)
        · exact fun hl => H1.h10 (by simpa using hl)
        · exact fun hl => H1.h11 (by simpa using hl)
        · exact fun _ => by simp
        · exact fun _ => by rw [HQ3.out]; rfl
        · exact fun hl => H1.h14 (by simpa using hl)
        · exact fun hl => H1.h15 (by simpa using hl)
        · exact fun hl => H1.h16 (by simpa using hl)
        · exact fun hl => H1.h17 (by simpa using hl)
        · exact fun hl => H1.h18 (by simpa using hl)
        · exact fun hl => H1.h19 (by simpa using hl)
        · exact fun hl => H1.h20 (by simpa using hl)
        · exact fun hl => H1.h22 (by simpa using hl)
        · exact fun hl => by have := H1.o21 (by simpa using hl); simp [this]
    · -- operation 14
      have y13 : L 13 = true := by simp [hp]
      obtain rfl := H.h13 y13
      go_simp
      refine Or.inl ?_
      have H1 := H
      refine hK _ _ ⟨v9, v10, v11, v12, v13, v14, v15, v16, v17, v18, v19, v20, v21, _, _, v24, v25, v26, v27, v28, v29, v5, rfl, ⟨?_, ?_, ?_, ?_, ?_, ?_, ?_, ?_, ?_, ?_, ?_, ?_, ?_, ?_, ?_, ?_, ?_, ?_, ?_, ?_, ?_, ?_, ?_, ?_, ?_, ?_, ?_, ?_, ?_⟩⟩
      · exact H1.g
      · exact H1.n6
      · exact H1.bx
      · exact by simpa using H1.rs
      · exact H1.p
      · exact by simpa using H1.mem
      · exact fun hl => H1.h0 (by simpa using hl)
      · exact fun hl => H1.h1 (by simpa using hl)
      · exact fun hl => H1.h2 (by simpa using hl)
      · exact fun hl => H1.h3 (by simpa using hl)
      · exact fun hl => H1.h4 (by simpa using hl)
      · exact fun hl => H1.h5 (by simpa using hl)
      · exact fun hl => H1.h6 (by simpa using hl)
      · exact fun hl => H1.h7 (by simpa using hl)
      · exact fun hl => H1.h8 (by simpa using hl)
      · exact fun hl => H1.h9 (by simpa using hl)
      · exact fun hl => H1.h10 (by simpa using hl)
      · exact fun hl => H1.h11 (by simpa using hl)
      · exact fun hl => H1.h12 (by simpa using hl)
      · exact fun hl => H1.h13 (by simpa using hl)
      · exact fun _ => rfl
      · exact fun hl => H1.h15 (by simpa using hl)
      · exact fun hl => H1.h16 (by simpa using hl)
      · exact fun hl => H1.h17 (by simpa using hl)
      · exact fun hl => H1.h18 (by simpa using hl)
      · exact fun hl => H1.h19 (by simpa using hl)
      · exact fun hl => H1.h20 (by simpa using hl)
      · exact fun hl => H1.h22 (by simpa using hl)
      · exact fun hl => by have := H1.o21 (by simpa using hl); simp [this]
    · -- operation 15
      have y14 : L 14 = true := by simp [hp]
      obtain rfl := H.h14 y14
      cases q3 with
      | false =>
        go_simp
        have H1 := H
        refine hK _ _ ⟨v9, v10, v11, v12, v13, v14, v15, v16, v17, v18, v19, v20, v21, v22, _, _, v25, v26, v27, v28, v29, v5, rfl, ⟨?_, ?_, ?_, ?_, ?_, ?_, ?_, ?_, ?_, ?_, ?_, ?_, ?_, ?_, ?_, ?_, ?_, ?_, ?_, ?_, ?_, ?_, ?_, ?_, ?_, ?_, ?_, ?_, ?_⟩⟩
        · exact H1.g
        · exact H1.n6
        · exact H1.bx
        · exact by simpa using H1.rs
        · exact H1.p
        · exact by simpa using H1.mem
        · exact fun hl => H1.h0 (by simpa using hl)
        · exact fun hl => H1.h1 (by simpa using hl)
        · exact fun hl => H1.h2 (by simpa using hl)
        · exact fun hl => H1.h3 (by simpa using hl)
        · exact fun hl => H1.h4 (by simpa using hl)
        · exact fun hl => H1.h5 (by simpa using hl)
        · exact fun hl => H1.h6 (by simpa using hl)
        · exact fun hl => H1.h7 (by simpa using hl)
        · exact fun hl => H1.h8 (by simpa using hl)
        · exact fun hl => H1.h9 (by simpa using hl)
        · exact fun hl => H1.h10 (by simpa using hl)
        · exact fun hl => H1.h11 (by simpa using hl)
        · exact fun hl => H1.h12 (by simpa using hl)
        · exact fun hl => H1.h13 (by simpa using hl)
        · exact fun hl => H1.h14 (by simpa using hl)
        · exact fun _ => by simp
        · exact fun hl => H1.h16 (by simpa using hl)
        · exact fun hl => H1.h17 (by simpa using hl)
        · exact fun hl => H1.h18 (by simpa using hl)
        · exact fun hl => H1.h19 (by simpa using hl)
        · exact fun hl => H1.h20 (by simpa using hl)
        · exact fun hl => H1.h22 (by simpa using hl)
        · exact fun hl => by have := H1.o21 (by simpa using hl); simp [this]
      | true =>
        have d0 : Wc.cell? ⟨w3.heap.size, 0, none⟩ = some (.func (.func 67) #[] #[.pointer (some ⟨W.heap.size, 0, none⟩)]) := by rw [blk_cell H.p]; rfl
        have d1 : Wc.cell? ⟨w3.heap.size, 1, none⟩ = some (.map (some B)) := by rw [blk_cell H.p]; rfl
        go_simp
        refine Or.inl ?_
        have H1 := H
        refine hK _ _ ⟨v9, v10, v11, v12, v13, v14, v15, v16, v17, v18, v19, v20, v21, v22, _, _, v25, v26, v27, v28, v29, v5, rfl, ⟨?_, ?_, ?_, ?_, ?_, ?_, ?_, ?_, ?_, ?_, ?_, ?_, ?_, ?_, ?_, ?_, ?_, ?_, ?_, ?_, ?_, ?_, ?_, ?_, ?_, ?_, ?_, ?_, ?_⟩⟩
        · exact H1.g
        · exact H1.n6
        · exact H1.bx
        · exact by simpa using H1.rs
        · exact H1.p
        · exact by simpa using H1.mem
        · exact fun hl => H1.h0 (by simpa using hl)
        · exact fun hl => H1.h1 (by simpa using hl)
        · exact fun hl => H1.h2 (by simpa using hl)
        · exact fun hl => H1.h3 (by simpa using hl)
        · exact fun hl => H1.h4 (by simpa using hl)
        · exact fun hl => H1.h5 (by simpa using hl)
        · exact fun hl => H1.h6 (by simpa using hl)
        · exact fun hl => H1.h7 (by simpa using hl)
        · exact fun hl => H1.h8 (by simpa using hl)
        · exact fun hl => H1.h9 (by simpa using hl)
        · exact fun hl => H1.h10 (by simpa using hl)
        · exact fun hl => H1.h11 (by simpa using hl)
        · exact fun hl => H1.h12 (by simpa using hl)
        · exact fun hl => H1.h13 (by simpa using hl)
        · exact fun hl => H1.h14 (by simpa using hl)
        · exact fun _ => by simp
        · exact fun hl => H1.h16 (by simpa using hl)
        · exact fun hl => H1.h17 (by simpa using hl)
        · exact fun hl => H1.h18 (by simpa using hl)
        · exact fun hl => H1.h19 (by simpa using hl)
        · exact fun hl => H1.h20 (by simpa using hl)
        · exact fun hl => H1.h22 (by simpa using hl)
        · exact fun hl => by have := H1.o21 (by simpa using hl); simp [this]
    · -- operation 16
      have y14 : L 14 = true := by simp [hp]
      obtain rfl := H.h14 y14
      cases q3 with
      | false =>
        go_simp
        have H1 := H
        refine hK _ _ ⟨v9, v10, v11, v12, v13, v14, v15, v16, v17, v18, v19, v20, v21, v22, _, v24, _, v26, v27, v28, v29, v5, rfl, ⟨?_, ?_, ?_, ?_, ?_, ?_, ?_, ?_, ?_, ?_, ?_, ?_, ?_, ?_, ?_, ?_, ?_, ?_, ?_, ?_, ?_, ?_, ?_, ?_, ?_, ?_, ?_, ?_, ?_⟩⟩
        · exact H1.g
        · exact H1.n6
        · exact H1.bx
        · exact by simpa using H1.rs
        · exact H1.p
        · exact by simpa using H1.mem
        · exact fun hl => H1.h0 (by simpa using hl)
        · exact fun hl => H1.h1 (by simpa using hl)
        · exact fun hl => H1.h2 (by simpa using hl)
        · exact fun hl => H1.h3 (by simpa using hl)
        · exact fun hl => H1.h4 (by simpa using hl)
        · exact fun hl => H1.h5 (by simpa using hl)
        · exact fun hl => H1.h6 (by simpa using hl)
        · exact fun hl => H1.h7 (by simpa using hl)
        · exact fun hl => H1.h8 (by simpa using hl)
        · exact fun hl => H1.h9 (by simpa using hl)
        · exact fun hl => H1.h10 (by simpa using hl)
        · exact fun hl => H1.h11 (by simpa using hl)
        · exact fun hl => H1.h12 (by simpa using hl)
        · exact fun hl => H1.h13 (by simpa using hl)
        · exact fun hl => H1.h14 (by simpa using hl)
        · exact fun hl => H1.h15 (by simpa using hl)
        · exact fun _ => by simp
        · exact fun hl => H1.h17 (by simpa using hl)
        · exact fun hl => H1.h18 (by simpa using hl)
        · exact fun hl => H1.h19 (by simpa using hl)
        · exact fun hl => H1.h20 (by simpa using hl)
        · exact fun hl => H1.h22 (by simpa using hl)
        · exact fun hl => by have := H1.o21 (by simpa using hl); simp [this]
      | true =>
        go_simp
        refine Or.inl ?_
        have H1 := H
        refine hK _ _ ⟨v9, v10, v11, v12, v13, v14, v15, v16, v17, v18, v19, v20, v21, v22, _, v24, _, v26, v27, v28, v29, v5, rfl, ⟨?_, ?_, ?_, ?_, ?_, ?_, ?_, ?_, ?_, ?_, ?_, ?_, ?_, ?_, ?_, ?_, ?_, ?_, ?_, ?_, ?_, ?_, ?_, ?_, ?_, ?_, ?_, ?_, ?_⟩⟩
        · exact H1.g
        · exact H1.n6
        · exact H1.bx
        · exact by simpa using H1.rs
        · exact H1.p
        · exact by simpa using H1.mem
        · exact fun hl => H1.h0 (by simpa using hl)
        · exact fun hl => H1.h1 (by simpa using hl)
        · exact fun hl => H1.h2 (by simpa using hl)
        · exact fun hl => H1.h3 (by simpa using hl)
        · exact fun hl => H1.h4 (by simpa using hl)
        · exact fun hl => H1.h5 (by simpa using hl)
        · exact fun hl => H1.h6 (by simpa using hl)
        · exact fun hl => H1.h7 (by simpa using hl)
        · exact fun hl => H1.h8 (by simpa using hl)
        · exact fun hl => H1.h9 (by simpa using hl)
        · exact fun hl => H1.h10 (by simpa using hl)
        · exact fun hl => H1.h11 (by simpa using hl)
        · exact fun hl => H1.h12 (by simpa using hl)
        · exact fun hl => H1.h13 (by simpa using hl)
        · exact fun hl => H1.h14 (by simpa using hl)
        · exact fun hl => H1.h15 (by simpa using hl)
        · exact fun _ => by simp
        · exact fun hl => H1.h17 (by simpa using hl)
        · exact fun hl => H1.h18 (by simpa using hl)
        · exact fun hl => H1.h19 (by simpa using hl)
        · exact fun hl => H1.h20 (by simpa using hl)
        · exact fun hl => H1.h22 (by simpa using hl)
        · exact fun hl => by have := H1.o21 (by simpa using hl); simp [this]
    · -- operation 17
      have y14 : L 14 = true := by simp [hp]
      obtain rfl := H.h14 y14
      cases q3 with
      | false =>
        go_simp
        have H1 := H
        refine hK _ _ ⟨v9, v10, v11, v12, v13, v14, v15, v16, v17, v18, v19, v20, v21, v22, _, v24, v25, _, v27, v28, v29, v5, rfl, ⟨?_, ?_, ?_, ?_, ?_, ?_, ?_, ?_, ?_, ?_, ?_, ?_, ?_, ?_, ?_, ?_, ?_, ?_, ?_, ?_, ?_, ?_, ?_, ?_, ?_, ?_, ?_, ?_, ?_⟩⟩
        · exact H1.g
        · exact H1.n6
        · exact H1.bx
        · exact by simpa using H1.rs
        · exact H1.p
        · exact by have := H1.mem; simpa using this
        · exact fun hl => H1.h0 (by simpa using hl)
        · exact fun hl => H1.h1 (by simpa using hl)
        · exact fun hl => H1.h2 (by simpa using hl)
        · exact fun hl => H1.h3 (by simpa using hl)
        · exact fun hl => H1.h4 (by simpa using hl)
        · exact fun hl => H1.h5 (by simpa using hl)
        · exact fun hl => H1.h6 (by simpa using hl)
        · exact fun hl => H1.h7 (by simpa using hl)
        · exact fun hl => H1.h8 (by simpa using hl)
        · exact fun hl => H1.h9 (by simpa using hl)
        · exact fun hl => H1.h10 (by simpa using hl)
        · exact fun hl => H1.h11 (by simpa using hl)
        · exact fun hl => H1.h12 (by simpa using hl)
        · exact fun hl => H1.h13 (by simpa using hl)
        · exact fun hl => H1.h14 (by simpa using hl)
        · exact fun hl => H1.h15 (by simpa using hl)
        · exact fun hl => H1.h16 (by simpa using hl)
        · exact fun _ => by simp
        · exact fun hl => H1.h18 (by simpa using hl)
        · exact fun hl => H1.h19 (by simpa using hl)
        · exact fun hl => H1.h20 (by simpa using hl)
        · exact fun hl => H1.h22 (by simpa using hl)
        · exact fun hl => by have := H1.o21 (by simpa using hl); simp [this]
      | true =>
        have y15 : L 15 = true := by simp [hp]
        have e15 := H.h15 y15
        rw [if_pos rfl] at e15
        subst e15
        have y16 : L 16 = true := by simp [hp]
        have e16 := H.h16 y16
        rw [if_pos rfl] at e16
        subst e16
        have hm := H.mem
        rw [if_neg (by simp [hL])] at hm
        go_simp
        refine Or.inl ?_
        refine (plOf_walkG W.heap.size (plIs a1) _ (plGoal W.heap.size a1) k B d [] M1 a0 n Wc (HOF.out rfl) hm H.bx).mono ?_
        rintro e w' ⟨rfl, hm3, hg3⟩
        have H1 := H
        refine hK _ _ ⟨v9, v10, v11, v12, v13, v14, v15, v16, v17, v18, v19, v20, v21, v22, _, _, _, _, v27, v28, v29, v5, rfl, ⟨?_, ?_, ?_, ?_, ?_, ?_, ?_, ?_, ?_, ?_, ?_, ?_, ?_, ?_, ?_, ?_, ?_, ?_, ?_, ?_, ?_, ?_, ?_, ?_, ?_, ?_, ?_, ?_, ?_⟩⟩
        · exact H1.g.grown hg3 H1.g.size (fun k hk => by injection hk with hk; have := H1.n6.1; omega)
        · exact H1.n6
        · exact blk_grown H1.bx hg3 (by intro e; injection e with e; have := H1.n6.1; omega)
        · exact by have := blk_grown H1.rs hg3 (by intro e; injection e with e; have := H1.n6.1; omega); simpa using this
        · exact blk_grown H1.p hg3 (by intro e; injection e with e; have := H1.n6.2; omega)
        · exact by simpa using hm3
        · exact fun hl => H1.h0 (by simpa using hl)
        · exact fun hl => H1.h1 (by simpa using hl)
        · exact fun hl => H1.h2 (by simpa using hl)
        · exact fun hl => H1.h3 (by simpa using hl)
        · exact fun hl => H1.h4 (by simpa using hl)
        · exact fun hl => H1.h5 (by simpa using hl)
        · exact fun hl => H1.h6 (by simpa using hl)
        · exact fun hl => H1.h7 (by simpa using hl)
        · exact fun hl => H1.h8 (by simpa using hl)
        · exact fun hl => H1.h9 (by simpa using hl)
        · exact fun hl => H1.h10 (by simpa using hl)
        · exact fun hl => H1.h11 (by simpa using hl)
        · exact fun hl => H1.h12 (by simpa using hl)
        · exact fun hl => H1.h13 (by simpa using hl)
        · exact fun hl => H1.h14 (by simpa using hl)
        · exact fun _ => by simp
        · exact fun _ => by simp
        · exact fun _ => by rw [if_pos rfl]; rfl
        · exact fun hl => H1.h18 (by simpa using hl)
        · exact fun hl => H1.h19 (by simpa using hl)
        · exact fun hl => H1.h20 (by simpa using hl)
        · exact fun hl => H1.h22 (by simpa using hl)
        · exact fun hl => by have := H1.o21 (by simpa using hl); simp [this]
    · -- operation 18
      have y14 : L 14 = true := by simp [hp]
      obtain rfl := H.h14 y14
      cases q3 with
      | false =>
        go_simp
        have H1 := H
        refine hK _ _ ⟨v9, v10, v11, v12, v13, v14, v15, v16, v17, v18, v19, v20, v21, v22, _, v24, v25, v26, _, v28, v29, v5, rfl, ⟨?_, ?_, ?_, ?_, ?_, ?_, ?_, ?_, ?_, ?_, ?_, ?_, ?_, ?_, ?_, ?_, ?_, ?_, ?_, ?_, ?_, ?_, ?_, ?_, ?_, ?_, ?_, ?_, ?_⟩⟩
        · exact H1.g
        · exact H1.n6
        · exact H1.bx
        · exact by simpa using H1.rs
        · exact H1.p
        · exact by simpa using H1.mem
        · exact fun hl => H1.h0 (by simpa using hl)
        · exact fun hl => H1.h1 (by simpa using hl)
        · exact fun hl => H1.h2 (by simpa using hl)
        · exact fun hl => H1.h3 (by simpa using hl)
        · exact fun hl => H1.h4 (by simpa using hl)
        · exact fun hl => H1.h5 (by simpa using hl)
        · exact fun hl => H1.h6 (by simpa using hl)
        · exact fun hl => H1.h7 (by simpa using hl)
        · exact fun hl => H1.h8 (by simpa using hl)
        · exact fun hl => H1.h9 (by simpa using hl)
        · exact fun hl => H1.h10 (by simpa using hl)
        · exact fun hl => H1.h11 (by simpa using hl)
        · exact fun hl => H1.h12 (by simpa using hl)
        · exact fun hl => H1.h13 (by simpa using hl)
        · exact fun hl => H1.h14 (by simpa using hl)
        · exact fun hl => H1.h15 (by simpa using hl)
        · exact fun hl => H1.h16 (by simpa using hl)
        · exact fun hl => H1.h17 (by simpa using hl)
        · exact fun _ => by simp
        · exact fun hl => H1.h19 (by simpa using hl)
        · exact fun hl => H1.h20 (by simpa using hl)
        · exact fun hl => H1.h22 (by simpa using hl)
        · exact fun hl => by have := H1.o21 (by simpa using hl); simp [this]
      | true =>
        have y17 : L 17 = true := by simp [hp]
        have e17 := H.h17 y17
        rw [if_pos rfl] at e17
        subst e17
        go_simp
        refine Or.inl ?_
        have H1 := H
        refine hK _ _ ⟨v9, v10, v11, v12, v13, v14, v15, v16, v17, v18, v19, v20, v21, v22, _, v24, v25, _, _, v28, v29, v5, rfl, ⟨?_, ?_, ?_, ?_, ?_, ?_, ?_, ?_, ?_, ?_, ?_, ?_, ?_, ?_, ?_, ?_, ?_, ?_, ?_, ?_, ?_, ?_, ?_, ?_, ?_, ?_, ?_, ?_, ?_⟩⟩
        · exact H1.g
        · exact H1.n6
        · exact H1.bx
        · exact by simpa using H1.rs
        · exact H1.p
        · exact by simpa using H1.mem
        · exact fun hl => H1.h0 (by simpa using hl)
        · exact fun hl => H1.h1 (by simpa using hl)
        · exact fun hl => H1.h2 (by simpa using hl)
        · exact fun hl => H1.h3 (by simpa using hl)
        · exact fun hl => H1.h4 (by simpa using hl)
        · exact fun hl => H1.h5 (by simpa using hl)
        · exact fun hl => H1.h6 (by simpa using hl)
        · exact fun hl => H1.h7 (by simpa using hl)
        · exact fun hl => H1.h8 (by simpa using hl)
        · exact fun hl => H1.h9 (by simpa using hl)
        · exact fun hl => H1.h10 (by simpa using hl)
        · exact fun hl => H1.h11 (by simpa using hl)
        · exact fun hl => H1.h12 (by simpa using hl)
        · exact fun hl => H1.h13 (by simpa using hl)
        · exact fun hl => H1.h14 (by simpa using hl)
        · exact fun hl => H1.h15 (by simpa using hl)
        · exact fun hl => H1.h16 (by simpa using hl)
        · exact fun _ => by simp
        · exact fun _ => by simp
        · exact fun hl => H1.h19 (by simpa using hl)
        · exact fun hl => H1.h20 (by simpa using hl)
        · exact fun hl => H1.h22 (by simpa using hl)
        · exact fun hl => by have := H1.o21 (by simpa using hl); simp [this]
    · -- operation 19
      have y14 : L 14 = true := by simp [hp]
      obtain rfl := H.h14 y14
      cases q3 with
      | false =>
        go_simp
        have H1 := H
        refine hK _ _ ⟨v9, v10, v11, v12, v13, v14, v15, v16, v17, v18, v19, v20, v21, v22, _, v24, v25, v26, v27, _, v29, v5, rfl, ⟨?_, ?_, ?_, ?_, ?_, ?_, ?_, ?_, ?_, ?_, ?_, ?_, ?_, ?_, ?_, ?_, ?_, ?_, ?_, ?_, ?_, ?_, ?_, ?_, ?_, ?_, ?_, ?_, ?_⟩⟩
        · exact H1.g
        · exact H1.n6
        · exact H1.bx
        · exact by simpa using H1.rs
        · exact H1.p
        · exact by simpa using H1.mem
        · exact fun hl => H1.h0 (by simpa using hl)
        · exact fun hl => H1.h1 (by simpa using hl)
        · exact fun hl => H1.h2 (by simpa using hl)
        · exact fun hl => H1.h3 (by simpa using hl)
        · exact fun hl => H1.h4 (by simpa using hl)
        · exact fun hl => H1.h5 (by simpa using hl)
        · exact fun hl => H1.h6 (by simpa using hl)
        · exact fun hl => H1.h7 (by simpa using hl)
        · exact fun hl => H1.h8 (by simpa using hl)
        · exact fun hl => H1.h9 (by simpa using hl)
        · exact fun hl => H1.h10 (by simpa using hl)
        · exact fun hl => H1.h11 (by simpa using hl)
        · exact fun hl => H1.h12 (by simpa using hl)
        · exact fun hl => H1.h13 (by simpa using hl)
        · exact fun hl => H1.h14 (by simpa using hl)
        · exact fun hl => H1.h15 (by simpa using hl)
        · exact fun hl => H1.h16 (by simpa using hl)
        · exact fun hl => H1.h17 (by simpa using hl)
        · exact fun hl => H1.h18 (by simpa using hl)
        · exact fun _ => by simp
        · exact fun hl => H1.h20 (by simpa using hl)
        · exact fun hl => H1.h22 (by simpa using hl)
        · exact fun hl => by have := H1.o21 (by simpa using hl); simp [this]
      | true =>
        have y18 : L 18 = true := by simp [hp]
        have e18 := H.h18 y18
        rw [if_pos rfl] at e18
        subst e18
        have hb4 := HB4.out
        go_simp
        refine Or.inl ?_
        have H1 := H
        refine hK _ _ ⟨v9, v10, v11, v12, v13, v14, v15, v16, v17, v18, v19, v20, v21, v22, _, v24, v25, v26, _, _, v29, v5, rfl, ⟨?_, ?_, ?_, ?_, ?_, ?_, ?_, ?_, ?_, ?_, ?_, ?_, ?_, ?_, ?_, ?_, ?_, ?_, ?_, ?_, ?_, ?_, ?_, ?_, ?_, ?_, ?_, ?_, ?_⟩⟩
        · exact H1.g
        · exact H1.n6
        · exact H1.bx
        · exact by simpa using H1.rs
        · exact H1.p
        · exact by simpa using H1.mem
        · exact fun hl => H1.h0 (by simpa using hl)
        · exact fun hl => H1.h1 (by simpa using hl)
        · exact fun hl => H1.h2 (by simpa using hl)
        · exact fun hl => H1.h3 (by simpa using hl)
        · exact fun hl => H1.h4 (by simpa using hl)
        · exact fun hl => H1.h5 (by simpa using hl)
        · exact fun hl => H1.h6 (by simpa using hl)
        · exact fun hl => H1.h7 (by simpa using hl)
        · exact fun hl => H1.h8 (by simpa using hl)
        · exact fun hl => H1.h9 (by simpa using hl)
        · exact fun hl => H1.h10 (by simpa using hl)
        · exact fun hl => H1.h11 (by simpa using hl)
        · exact fun hl => H1.h12 (by simpa using hl)
        · exact fun hl => H1.h13 (by simpa using hl)
        · exact fun hl => H1.h14 (by simpa using hl)
        · exact fun hl => H1.h15 (by simpa using hl)
        · exact fun hl => H1.h16 (by simpa using hl)
        · exact fun hl => H1.h17 (by simpa using hl)
        · exact fun _ => by simp
        · exact fun _ => by simp [HB4.out]
        · exact fun hl => H1.h20 (by simpa using hl)
        · exact fun hl => H1.h22 (by simpa using hl)
        · exact fun hl => by have := H1.o21 (by simpa using hl); simp [this]
    · -- operation 20
      have y14 : L 14 = true := by simp [hp]
      obtain rfl := H.h14 y14
      have y19 : L 19 = true := by simp [hp]
      have e5 := H.h19 y19
      cases q3 with
      | false =>
        rw [if_neg (by decide)] at e5
        subst e5
        go_simp
        refine Or.inl ?_
        have H1 := H
        refine hK _ _ ⟨v9, v10, v11, v12, v13, v14, v15, v16, v17, v18, v19, v20, v21, v22, _, v24, v25, v26, v27, _, _, v5, rfl, ⟨?_, ?_, ?_, ?_, ?_, ?_, ?_, ?_, ?_, ?_, ?_, ?_, ?_, ?_, ?_, ?_, ?_, ?_, ?_, ?_, ?_, ?_, ?_, ?_, ?_, ?_, ?_, ?_, ?_⟩⟩
        · exact H1.g
        · exact H1.n6
        · exact H1.bx
        · exact by simpa using H1.rs
        · exact H1.p
        · exact by simpa using H1.mem
        · exact fun hl => H1.h0 (by simpa using hl)
        · exact fun hl => H1.h1 (by simpa using hl)
        · exact fun hl => H1.h2 (by simpa using hl)
        · exact fun hl => H1.h3 (by simpa using hl)
        · exact fun hl => H1.h4 (by simpa using hl)
        · exact fun hl => H1.h5 (by simpa using hl)
        · exact fun hl => H1.h6 (by simpa using hl)
        · exact fun hl => H1.h7 (by simpa using hl)
        · exact fun hl => H1.h8 (by simpa using hl)
        · exact fun hl => H1.h9 (by simpa using hl)
        · exact fun hl => H1.h10 (by simpa using hl)
        · exact fun hl => H1.h11 (by simpa using hl)
        · exact fun hl => H1.h12 (by simpa using hl)
        · exact fun hl => H1.h13 (by simpa using hl)
        · exact fun hl => H1.h14 (by simpa using hl)
        · exact fun hl => H1.h15 (by simpa using hl)
        · exact fun hl => H1.h16 (by simpa using hl)
        · exact fun hl => H1.h17 (by simpa using hl)
        · exact fun hl => H1.h18 (by simpa using hl)
        · exact fun _ => by simp
        · exact fun _ => by rw [HQ4.out]; rfl
        · exact fun hl => H1.h22 (by simpa using hl)
        · exact fun hl => by have := H1.o21 (by simpa using hl); simp [this]
      | true =>
        rw [if_pos rfl] at e5
        subst e5
        go_simp
        refine Or.inl ?_
        have H1 := H
        refine hK _ _ ⟨v9, v10, v11, v12, v13, v14, v15, v16, v17, v18, v19, v20, v21, v22, _, v24, v25, v26, v27, _, _, v5, rfl, ⟨?_, ?_, ?_, ?_, ?_, ?_, ?_, ?_, ?_, ?_, ?_, ?_, ?_, ?_, ?_, ?_, ?_, ?_, ?_, ?_, ?_, ?_, ?_, ?_, ?_, ?_, ?_, ?_, ?_⟩⟩
        · exact H1.g
        · exact H1.n6
        · exact H1.bx
        · exact by simpa using H1.rs
        · exact H1.p
        · exact by simpa using H1.mem
        · exact fun hl => H1.h0 (by simpa using hl)
        · exact fun hl => H1.h1 (by simpa using hl)
        · exact fun hl => H1.h2 (by simpa using hl)
        · exact fun hl => H1.h3 (by simpa using hl)
        · exact fun hl => H1.h4 (by simpa using hl)
        · exact fun hl => H1.h5 (by simpa using hl)
        · exact fun hl => H1.h6 (by simpa using hl)
        · exact fun hl => H1.h7 (by simpa using hl)
        · exact fun hl => H1.h8 (by simpa using hl)
        · exact fun hl => H1.h9 (by simpa using hl)
        · exact fun hl => H1.h10 (by simpa using hl)
        · exact fun hl => H1.h11 (by simpa using hl)
        · exact fun hl => H1.h12 (by simpa using hl)
        · exact fun hl => H1.h13 (by simpa using hl)
        · exact fun hl => H1.h14 (by simpa using hl)
        · exact fun hl => H1.h15 (by simpa using hl)
        · exact fun hl => H1.h16 (by simpa using hl)
        · exact fun hl => H1.h17 (by simpa using hl)
        · exact fun hl => H1.h18 (by simpa using hl)
        · exact fun _ => by simp
        · exact fun _ => by rw [HQ4.out]; rfl
        · exact fun hl => H1.h22 (by simpa using hl)
        · exact fun hl => by have := H1.o21 (by simpa using hl); simp [this]
    · -- operation 21
      have y0 : L 0 = true := by simp [hp]
      obtain rfl := H.h0 y0
      have y17 : L 17 = true := by simp [hp]
      have hrs := H.rs
      rw [if_neg (by simp [hL])] at hrs
      have c0 : Wc.cell? ⟨W.heap.size + 1, 0, none⟩ = some .nilFunc := by rw [blk_cell hrs]; rfl
      have c1 : Wc.cell? ⟨W.heap.size + 1, 1, none⟩ = some (.map none) := by rw [blk_cell hrs]; rfl
      have f0 := blk_frozen hrs 0
      have f1 := blk_frozen hrs 1
      have n6 := H.n6
      go_simp
      refine Or.inl ?_
      have H1 := H
      refine hK _ _ ⟨_, v10, v11, v12, v13, v14, v15, v16, v17, v18, v19, v20, v21, v22, v23, v24, v25, v26, v27, v28, v29, v5, rfl, ⟨?_, ?_, ?_, ?_, ?_, ?_, ?_, ?_, ?_, ?_, ?_, ?_, ?_, ?_, ?_, ?_, ?_, ?_, ?_, ?_, ?_, ?_, ?_, ?_, ?_, ?_, ?_, ?_, ?_⟩⟩
      · exact (H1.g.setCell (p := ⟨W.heap.size + 1, 0, none⟩) (by show W.heap.size ≤ W.heap.size + 1; omega) _).setCell (p := ⟨W.heap.size + 1, 1, none⟩) (by show W.heap.size ≤ W.heap.size + 1; omega) _
      · exact H1.n6
      · exact ((Below.heap_setCell _ _ _ _ (by show W.heap.size ≠ W.heap.size + 1; omega)).trans (Below.heap_setCell _ _ _ _ (by show W.heap.size ≠ W.heap.size + 1; omega))).trans H1.bx
      · exact by rw [if_pos (by simp)]; exact blk_put (blk_put hrs 0 _ rfl) 1 _ rfl
      · exact ((Below.heap_setCell _ _ _ _ (by show w3.heap.size ≠ W.heap.size + 1; omega)).trans (Below.heap_setCell _ _ _ _ (by show w3.heap.size ≠ W.heap.size + 1; omega))).trans H1.p
      · exact by rw [show (if ((L 17 || (17 == 21)) && q3) = true then M1 else []) = (if (L 17 && q3) = true then M1 else []) from by simp]; exact (H1.mem.set (show B ≠ W.heap.size + 1 by omega) _).set (show B ≠ W.heap.size + 1 by omega) _
      · exact fun _ => rfl
      · exact fun hl => H1.h1 (by simpa using hl)
      · exact fun hl => H1.h2 (by simpa using hl)
      · exact fun hl => H1.h3 (by simpa using hl)
      · exact fun hl => H1.h4 (by simpa using hl)
      · exact fun hl => H1.h5 (by simpa using hl)
      · exact fun hl => H1.h6 (by simpa using hl)
      · exact fun hl => H1.h7 (by simpa using hl)
      · exact fun hl => H1.h8 (by simpa using hl)
      · exact fun hl => H1.h9 (by simpa using hl)
      · exact fun hl => H1.h10 (by simpa using hl)
      · exact fun hl => H1.h11 (by simpa using hl)
      · exact fun hl => H1.h12 (by simpa using hl)
      · exact fun hl => H1.h13 (by simpa using hl)
      · exact fun hl => H1.h14 (by simpa using hl)
      · exact fun hl => H1.h15 (by simpa using hl)
      · exact fun hl => H1.h16 (by simpa using hl)
      · exact fun hl => H1.h17 (by simpa using hl)
      · exact fun hl => H1.h18 (by simpa using hl)
      · exact fun hl => H1.h19 (by simpa using hl)
      · exact fun hl => H1.h20 (by simpa using hl)
      · exact fun hl => H1.h22 (by simpa using hl)
      · exact fun _ => by simp [y17]
    · -- operation 22
      have y20 : L 20 = true := by simp [hp]
      obtain rfl := H.h20 y20
      go_simp
      refine Or.inl ?_
      have H1 := H
      refine hK _ _ ⟨v9, v10, v11, v12, v13, v14, v15, v16, v17, v18, v19, v20, v21, v22, v23, v24, v25, v26, v27, v28, _, _, rfl, ⟨?_, ?_, ?_, ?_, ?_, ?_, ?_, ?_, ?_, ?_, ?_, ?_, ?_, ?_, ?_, ?_, ?_, ?_, ?_, ?_, ?_, ?_, ?_, ?_, ?_, ?_, ?_, ?_, ?_⟩⟩
      · exact H1.g
      · exact H1.n6
      · exact H1.bx
      · exact by simpa using H1.rs
      · exact H1.p
      · exact by simpa using H1.mem
      · exact fun hl => H1.h0 (by simpa using hl)
      · exact fun hl => H1.h1 (by simpa using hl)
      · exact fun hl => H1.h2 (by simpa using hl)
      · exact fun hl => H1.h3 (by simpa using hl)
      · exact fun hl => H1.h4 (by simpa using hl)
      · exact fun hl => H1.h5 (by simpa using hl)
      · exact fun hl => H1.h6 (by simpa using hl)
      · exact fun hl => H1.h7 (by simpa using hl)
      · exact fun hl => H1.h8 (by simpa using hl)
      · exact fun hl => H1.h9 (by simpa using hl)
      · exact fun hl => H1.h10 (by simpa using hl)
      · exact fun hl => H1.h11 (by simpa using hl)
      · exact fun hl => H1.h12 (by simpa using hl)
      · exact fun hl => H1.h13 (by simpa using hl)
      · exact fun hl => H1.h14 (by simpa using hl)
      · exact fun hl => H1.h15 (by simpa using hl)
      · exact fun hl => H1.h16 (by simpa using hl)
      · exact fun hl => H1.h17 (by simpa using hl)
      · exact fun hl => H1.h18 (by simpa using hl)
      · exact fun hl => H1.h19 (by simpa using hl)
      · exact fun hl => H1.h20 (by simpa using hl)
      · exact fun _ => rfl
      · exact fun hl => by have := H1.o21 (by simpa using hl); simp [this]
  case fin =>
    rintro L a Wc hall ⟨v9, v10, v11, v12, v13, v14, v15, v16, v17, v18, v19, v20, v21, v22, v23, v24, v25, v26, v27, v28, v29, v5, rfl, H⟩
    obtain rfl := H.h22 (hall 22 (by decide))
    have hrs := H.rs
    rw [if_pos (hall 21 (by decide))] at hrs
    have hm := H.mem
    rw [hall 17 (by decide), Bool.true_and, ← HMQ.out] at hm
    have c0 : Wc.cell? ⟨W.heap.size + 1, 0, none⟩ = some (.func (.func 67) #[] #[.pointer (some ⟨W.heap.size, 0, none⟩)]) := by rw [blk_cell hrs]; rfl
    have c1 : Wc.cell? ⟨W.heap.size + 1, 1, none⟩ = some (.map (some B)) := by rw [blk_cell hrs]; rfl
    have hg := Aside0.mk H.g
    have hbx := Aside0.mk H.bx
    have hmm := Aside0.mk hm
    clear H hall hrs hm
    go_wp2
    exact bodyPost_ret (v := .tuple #[.agg #[(.func (.func 67) #[] #[.pointer (some ⟨W.heap.size, 0, none⟩)]), .map (some B)], .bool ok]) (by simp [results, Tryd.results45, go_sem, c0, c1]) rfl ⟨B, rfl, by have := HBW.out; omega, hbx.out, hmm.out, hg.out⟩
theorem plGo_le (k d : Nat) (a0 a1 : ByteArray) : LeO (plGo k d a0 a1) (plGo (k + 1) (d + 1) a0 a1) :=
  LeO.bind (LeO.refl _) (fun _ => LeO.ite (LeO.bind (LeO.refl _) (fun _ => LeO.ite (LeO.ite (LeO.bind (plOf_le k (fun _ => LeO.refl _) d [] a0) (fun _ => LeO.refl _)) (LeO.refl _)) (LeO.refl _))) (LeO.refl _))
def impl_CanExchange.f (k : Nat) (a0 : ByteArray) : Option (Bool × Bool) := (impl_IsPond.f a0).bind fun p => if p = true then (impl_exchanged.f a0).bind fun g => (plGo k k a0 g).bind fun r => some (r.1, true) else some (false, false)
theorem impl_CanExchange.mono : ∀ a0 k, LeO (impl_CanExchange.f k a0) (impl_CanExchange.f (k + 1) a0) := fun a0 k =>
  LeO.bind (LeO.refl _) (fun _ => LeO.ite (LeO.bind (LeO.refl _) (fun g => LeO.bind (plGo_le k k a0 g) (fun _ => LeO.refl _))) (LeO.refl _))
set_option maxHeartbeats 8000000 in
set_option maxRecDepth 100000 in
theorem impl_CanExchange.calls (k : Nat) (a0 : ByteArray) (r1 r2 : Bool) (w : World) (h : impl_CanExchange.f k a0 = some (r1, r2)) :
    Calls Tryd.prog 19 #[.string a0] w fun e w' => e = .returned (.tuple #[.bool r1, .bool r2]) ∧ Below w.heap.size w w' := by
  obtain ⟨p, hp, h⟩ := Option.bind_eq_some_iff.mp h
  have HP := Aside0.mk hp
  clear hp
  cases p with
  | false =>
    simp only [Bool.false_eq_true, if_false, Option.some.injEq, Prod.mk.injEq] at h
    obtain ⟨rfl, rfl⟩ := h
    go_enter Tryd.func19, Tryd.ntmps19
    go_wp2_with (go_at_call 36; (refine (impl_IsPond.calls a0 false _ HP.out).mono ?_); rintro e w3 ⟨rfl, hb⟩; have HBL := Aside0.mk hb; clear hb)
    go_ret2
    exact ⟨rfl, HBL.out⟩
  | true =>
    rw [if_pos rfl] at h
    obtain ⟨g, hg, h⟩ := Option.bind_eq_some_iff.mp h
    obtain ⟨⟨ok, M⟩, hq, h⟩ := Option.bind_eq_some_iff.mp h
    simp only [Option.some.injEq, Prod.mk.injEq] at h
    obtain ⟨rfl, rfl⟩ := h
    have HG := Aside0.mk hg
    have HQ := Aside0.mk hq
    clear hg hq
    go_enter Tryd.func19, Tryd.ntmps19
    go_wp2_with (first | (go_at_call 36; (refine (impl_IsPond.calls a0 true _ HP.out).mono ?_); rintro e w3 ⟨rfl, hb⟩; have HBL := Aside0.mk hb; clear hb) | (go_at_call 46; (refine (impl_exchanged.calls a0 g _ HG.out).mono ?_); rintro e w4 ⟨rfl, hb⟩; have HBM := Aside0.mk (below_step HBL.out hb); clear hb) | (go_at_call 45; (refine (plGo_walk k k a0 g ok M _ HQ.out).mono ?_); rintro e w5 ⟨B, rfl, hB, hbx, hm, hb⟩; have HBN := Aside0.mk (below_step HBM.out hb); clear hB hbx hm hb))
    go_ret2
    exact ⟨rfl, below_alloc HBN.out _⟩

end Go.Proofs.YtkikpfeipejnlaaDoor.PFnExactCanExchange
