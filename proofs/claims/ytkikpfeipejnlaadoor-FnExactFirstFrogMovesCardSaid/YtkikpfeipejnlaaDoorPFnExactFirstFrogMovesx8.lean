-- Printed by this session's eprint.py over the kit's print (with this session's own texts for some functions)
import Derived.Test.YtkikpfeipejnlaaDoorPFnExactFirstFrogMovesx0
import Derived.Test.YtkikpfeipejnlaaDoorPFnExactFirstFrogMovesx1
import Derived.Test.YtkikpfeipejnlaaDoorPFnExactFirstFrogMovesx4
import Derived.Test.YtkikpfeipejnlaaDoorPFnExactFirstFrogMovesx5
import Derived.Test.YtkikpfeipejnlaaDoorPFnExactFirstFrogMovesx6
import Derived.Test.YtkikpfeipejnlaaDoorPFnExactFirstFrogMovesx7
namespace Go.Proofs.YtkikpfeipejnlaaDoor.PFnExactFirstFrogMoves
open Go.RowKit Go.Proofs.YtkikpfeipejnlaaDoorW.PrintWords Go.Proofs.YtkikpfeipejnlaaDoorW.PrintLast Go.Proofs.YtkikpfeipejnlaaDoorW.PrintMore
attribute [local go_sem] max2_int min2_int max_two min_two max_three min_three max_four min_four   -- for this text's walks alone
set_option linter.unusedVariables false
set_option linter.unusedSimpArgs false

/-! ### impl_FirstFrogMoves: function 32 -/
def plMost (f : plF) : Int := f.2.1
def plLeast (f : plF) : Int := f.1
/-- The first move behind which so many moves are left, and the pond behind it. -/
def plFind (g : plM → ByteArray → Option (plF × plM)) (told : plF → Int) (s : ByteArray) (left : Nat) : List Int → plM → Option (Option (Int × ByteArray) × plM)
  | [], M => some (none, M)
  | m :: ms, M => (impl_hopped.f s m).bind fun t => (g M t).bind fun n => if 0 < n.1.2.2 ∧ told n.1 = (left : Int) then some (some (m, t), n.2) else plFind g told s left ms n.2
def plLoop (g : plM → ByteArray → Option (plF × plM)) (told : plF → Int) (k : Nat) : Nat → ByteArray → List Int → plM → Option (List Int)
  | 0, _, out, _ => some out
  | left + 1, s, out, M => (impl_hops.f k s).bind fun ms => if ms.length ≤ 1000 ∧ out.length ≤ 1000000 then (plFind g told s left ms M).bind fun r => match r.1 with
    | some mt => plLoop g told k left mt.2 (out ++ [mt.1]) r.2
    | none => plLoop g told k left s out r.2 else none
/-- What the method 'first' answers. -/
def plFst (E : ByteArray → Option Bool) (told : plF → Int) (k d : Nat) (M : plM) (s : ByteArray) : Option (List Int) := (plOf E k d M s).bind fun f => if told f.1 ≤ 1000000 then plLoop (plOf E k d) told k (told f.1).toNat s [] f.2 else none
def plOut (W : World) (base : Nat) (v : Value) (xs : List Int) : Prop := W.ownsRow base 3 1 v xs.length (xs.map (Value.int .i64))
theorem plOut.form {b0 : Nat} {W : World} {v : Value} {l : List Int} (h : plOut W b0 v l) : (l = [] ∧ v = .slice none 0 0) ∨ ∃ g c cur, v = .slice (some ⟨g, 0, none⟩) l.length c ∧ b0 ≤ g ∧ W.heap[g]? = some (.cells cur 3 (0, 0)) := by
  rcases h.2 with ⟨h1, h2⟩ | ⟨g, c, cur, h1, h2, h3, _⟩
  · exact .inl ⟨List.length_eq_zero_iff.1 h2, h1⟩
  · exact .inr ⟨g, c, cur, h1, h2, h3⟩
theorem plOut.kept {W W' : World} {b B : Nat} {v : Value} {xs : List Int} (h : plOut W b v xs) (hg : W.grownBy W' (some B)) (hB : B < b) : plOut W' b v xs := by
  refine World.ownsRow.kept h hg ?_
  rcases plOut.form h with ⟨_, e⟩ | ⟨g, c, cur, e, hb, _⟩
  · subst e; exact .inl rfl
  · subst e; exact .inr (by intro e; simp only [Value.ownBlock, Option.some.injEq] at e; omega)
theorem plOut.nil {W : World} {base b : Nat} (hb : base ≤ b) (hc : W.heap[b]? = some (.cells #[] 3 (0, 0))) : plOut W base (.slice (some ⟨b, 0, none⟩) 0 0) [] :=
  ⟨rfl, .inr ⟨b, 0, #[], rfl, hb, hc, Nat.le_refl _, by decide, rfl, rfl⟩⟩
/-- The blocks of a call of 'first'. -/
structure plF1 (W : World) (B : Nat) (fv : Value) (W' : World) : Prop where
  g : W.grownBy W' (some B)
  p : W'.heap[W.heap.size]? = some (.cells #[fv, .map (some B)] 51 (0, 0))
theorem plF1.kept {W W1 W2 : World} {B : Nat} {fv : Value} (h : plF1 W B fv W1) (hB : B < W.heap.size) (hg : W1.grownBy W2 (some B)) : plF1 W B fv W2 :=
  ⟨h.g.trans hg, blk_grown h.p hg (by intro e; injection e with e; omega)⟩
theorem plGr {W W1 W2 : World} {B : Nat} {row : Option Nat} (h : W.grownBy W1 (some B)) (hg : W1.grownBy W2 row) (hr : ∀ k, row = some k → W.heap.size ≤ k) : W.grownBy W2 (some B) :=
  ⟨hg.os.trans h.os, hg.tape.trans h.tape, hg.output.trans h.output, Nat.le_trans h.size hg.size, fun k hk hne => (hg.block k (Nat.lt_of_lt_of_le hk h.size) (fun e => by have := hr k e.symm; omega)).trans (h.block k hk hne)⟩
theorem plF1.row {W W1 W2 : World} {B : Nat} {fv v : Value} {xs : List Int} (h : plF1 W B fv W1) (ho : plOut W1 W.heap.size v xs) (hg : W1.grownBy W2 v.ownBlock) : plF1 W B fv W2 := by
  have hk : ∀ k, v.ownBlock = some k → W.heap.size ≤ k ∧ k ≠ W.heap.size := by
    intro k hk
    rcases plOut.form ho with ⟨_, e⟩ | ⟨g, c, cur, e, hb, hc⟩
    · subst e; simp [Value.ownBlock] at hk
    · subst e
      simp only [Value.ownBlock, Option.some.injEq] at hk
      subst hk
      exact ⟨hb, fun e => by subst e; have := blk_ne hc h.p (by decide); exact this rfl⟩
  exact ⟨plGr h.g hg (fun k e => (hk k e).1), blk_grown h.p hg (fun e => (hk _ e.symm).2 rfl)⟩
theorem plMem.row {W1 W2 : World} {B b : Nat} {M : plM} {v : Value} {xs : List Int} (h : plMem W1 B M) (ho : plOut W1 b v xs) (hg : W1.grownBy W2 v.ownBlock) : plMem W2 B M := by
  refine h.kept hg ?_
  rcases plOut.form ho with ⟨_, e⟩ | ⟨g, c, cur, e, hb, hc⟩
  · subst e; simp [Value.ownBlock]
  · subst e
    simp only [Value.ownBlock, ne_eq, Option.some.injEq]
    exact h.ne hc
theorem plNews (w : World) (m : Int) : ∀ (j : Nat) (u : Value), [Value.int .i64 m][j]? = some u → (w.alloc (.cells #[.int .i64 m] 3)).cell? ((⟨w.heap.size, 0, none⟩ : Addr).add j) = some u := by
  intro j u hj
  match j, hj with
  | 0, hj =>
    obtain rfl := Option.some.inj (show some _ = some u from hj)
    exact (blk_cell (blk_new w (.cells #[.int .i64 m] 3)) 0)
theorem plOne (m : Int) : ∀ u ∈ [Value.int .i64 m], u.oneCell' = true := by
  intro u hu
  simp only [List.mem_singleton] at hu
  subst hu; rfl
theorem plOut.snoc {w : World} {base : Nat} {v : Value} {xs : List Int} {m : Int} (h : w.ownsRow base 3 1 v (xs.length + 1) (xs.map (Value.int .i64) ++ [.int .i64 m])) : plOut w base v (xs ++ [m]) := by
  unfold plOut
  rw [List.length_append, List.map_append]
  exact h
theorem plOut.toR {W : World} {b b' : Nat} {v : Value} {xs : List Int} (h : plOut W b v xs) (hb : b' ≤ b) : Kd.R (Kd.int .i64) 3 W b' (fun _ => True) v xs := by
  refine Kd.R_of_own ⟨h.1, ?_⟩ (fun _ _ => trivial)
  rcases h.2 with h | ⟨g, cap, cur, h1, h2, h3⟩
  · exact .inl h
  · exact .inr ⟨g, cap, cur, h1, Nat.le_trans hb h2, h3⟩
theorem plFind_le {g g' : plM → ByteArray → Option (plF × plM)} (h : ∀ M t, LeO (g M t) (g' M t)) (told : plF → Int) (s : ByteArray) (left : Nat) : ∀ (ms : List Int) (M : plM), LeO (plFind g told s left ms M) (plFind g' told s left ms M)
  | [], _ => LeO.refl _
  | _ :: ms, _ => LeO.bind (LeO.refl _) (fun _ => LeO.bind (h _ _) (fun _ => LeO.ite (LeO.refl _) (plFind_le h told s left ms _)))
theorem plLoop_le {g g' : plM → ByteArray → Option (plF × plM)} (h : ∀ M t, LeO (g M t) (g' M t)) (told : plF → Int) (k : Nat) : ∀ (left : Nat) (s : ByteArray) (out : List Int) (M : plM), LeO (plLoop g told k left s out M) (plLoop g' told (k + 1) left s out M)
  | 0, _, _, _ => LeO.refl _
  | left + 1, s, out, M => by
    simp only [plLoop]
    refine LeO.bind (impl_hops.mono s k) (fun _ => LeO.ite (LeO.bind (plFind_le h told s left _ _) (fun r => ?_)) (LeO.refl _))
    obtain ⟨r1, r2⟩ := r
    cases r1 with
    | none => exact plLoop_le h told k left _ _ _
    | some mt => exact plLoop_le h told k left _ _ _
theorem plFst_le {E E' : ByteArray → Option Bool} (told : plF → Int) (k d : Nat) (hE : ∀ s, LeO (E s) (E' s)) (M : plM) (s : ByteArray) : LeO (plFst E told k d M s) (plFst E' told (k + 1) (d + 1) M s) :=
  LeO.bind (plOf_le k hE d M s) (fun _ => LeO.ite (plLoop_le (fun M t => plOf_le k hE d M t) told k _ _ _ _) (LeO.refl _))
set_option maxHeartbeats 8000000 in
theorem plTo_walk (F : Nat) (caps : Array Value) (W : World) :
    Calls Tryd.prog 51 #[.func (.func F) #[] caps] W fun e W' => ∃ B, e = .returned (.agg #[.func (.func F) #[] caps, .map (some B)]) ∧ W.heap.size ≤ B ∧ plMem W' B [] ∧ Below W.heap.size W W' := by
  have hmm := @run_makeMap Tryd.prog
  go_enter Tryd.func51, Tryd.ntmps51
  go_wp2
  have hm := World.ownsMap_made (H := Unit) (W.alloc (.cells #[.func (.func F) #[] caps, .map (some (W.heap.size + 1))] 51)) Tryd.prog 9 plR
  rw [show (W.alloc (.cells #[.func (.func F) #[] caps, .map (some (W.heap.size + 1))] 51)).heap.size = W.heap.size + 1 from by simp] at hm
  exact bodyPost_ret (v := .agg #[.func (.func F) #[] caps, .map (some (W.heap.size + 1))]) (by simp [results, Tryd.results51, go_sem]) rfl ⟨W.heap.size + 1, rfl, by omega, hm, below_alloc (below_alloc (Below.refl _ _) _) _⟩
def plBox (W : World) (b : Nat) (g : ByteArray) : Prop := W.heap[b]? = some (.cells #[.string g] 9 (0, 0))
/-- Is a pond the goal? -/
def plIs (g s : ByteArray) : Option Bool := some (s.toList == g.toList)
set_option maxHeartbeats 8000000 in
theorem plGoal (Bg : Nat) (g : ByteArray) : plEnd (plIs g) 67 #[.pointer (some ⟨Bg, 0, none⟩)] (fun W => plBox W Bg g) := by
  refine ⟨fun W s b h hb => ?_, fun W W' B M h hm hg => blk_grown h hg (fun e => by injection e with e; exact hm.ne h e.symm)⟩
  obtain rfl := Option.some.inj hb
  have c0 : W.cell? ⟨Bg, 0, none⟩ = some (.string g) := by rw [blk_cell h]; rfl
  clear hb
  show Calls Tryd.prog 67 #[.string s, .pointer (some ⟨Bg, 0, none⟩)] W _
  go_enter Tryd.func67, Tryd.ntmps67
  go_wp2
  go_ret
  exact ⟨rfl, Below.refl _ _⟩
/-- What holds in the drawn region of 'toGoal', where some of its operations are done. -/
structure plRG (W : World) (a0 a1 : ByteArray) (B b6 : Nat) (p1 b2 q2 b3 q3 b4 q4 : Bool) (n : plF) (M : plM) (L : Nat → Bool) (v9 v10 v11 v12 v13 v14 v15 v16 v17 v18 v19 v20 v21 v22 v23 v24 v25 v26 v27 v28 v29 v5 : Value) (W' : World) : Prop where
  g : Below W.heap.size W W'
  n6 : W.heap.size + 2 ≤ B ∧ B < b6
  bx : plBox W' W.heap.size a1
  rs : W'.heap[W.heap.size + 1]? = some (.cells (if L 21 = true then #[(.func (.func 67) #[] #[.pointer (some ⟨W.heap.size, 0, none⟩)]), .map (some B)] else #[.nilFunc, .map none]) 51 (0, 0))
  p : W'.heap[b6]? = some (.cells #[(.func (.func 67) #[] #[.pointer (some ⟨W.heap.size, 0, none⟩)]), .map (some B)] 51 (0, 0))
  mem : plMem W' B (if (L 17 && q3) = true then M else [])
  h0 : L 0 = true → v9 = .agg #[(.func (.func 67) #[] #[.pointer (some ⟨W.heap.size, 0, none⟩)]), .map (some B)]
  h1 : L 1 = true → v10 = .string a0
  h2 : L 2 = true → v11 = .bool p1
  h3 : L 3 = true → v12 = .bool p1
  h4 : L 4 = true → v13 = if p1 = true then .string a1 else undef
  h5 : L 5 = true → v14 = if p1 = true then .bool b2 else undef
  h6 : L 6 = true → v15 = .bool q2
  h7 : L 7 = true → v16 = .bool q2
  h8 : L 8 = true → v17 = if q2 = true then .string a0 else undef
  h9 : L 9 = true → v18 = if q2 = true then .int .i64 a0.size else undef
  h10 : L 10 = true → v19 = if q2 = true then .string a1 else undef
  h11 : L 11 = true → v20 = if q2 = true then .int .i64 a1.size else undef
  h12 : L 12 = true → v21 = if q2 = true then .bool b3 else undef
  h13 : L 13 = true → v22 = .bool q3
  h14 : L 14 = true → v23 = .bool q3
  h15 : L 15 = true → v24 = if q3 = true then .agg #[(.func (.func 67) #[] #[.pointer (some ⟨W.heap.size, 0, none⟩)]), .map (some B)] else undef
  h16 : L 16 = true → v25 = if q3 = true then .string a0 else undef
  h17 : L 17 = true → v26 = if q3 = true then .agg #[.int .i64 n.1, .int .i64 n.2.1, .int .i64 n.2.2] else undef
  h18 : L 18 = true → v27 = if q3 = true then .int .i64 n.2.2 else undef
  h19 : L 19 = true → v28 = if q3 = true then .bool b4 else undef
  h20 : L 20 = true → v29 = .bool q4
  h22 : L 22 = true → v5 = .bool q4
  o21 : L 21 = true → L 17 = true
theorem plRG.below {W W1 W2 : World} {a0 a1 : ByteArray} {B b6 : Nat} {p1 b2 q2 b3 q3 b4 q4 : Bool} {n : plF} {M : plM} {L : Nat → Bool} {v9 v10 v11 v12 v13 v14 v15 v16 v17 v18 v19 v20 v21 v22 v23 v24 v25 v26 v27 v28 v29 v5 : Value} (H : plRG W a0 a1 B b6 p1 b2 q2 b3 q3 b4 q4 n M L v9 v10 v11 v12 v13 v14 v15 v16 v17 v18 v19 v20 v21 v22 v23 v24 v25 v26 v27 v28 v29 v5 W1) (hb : Below W1.heap.size W1 W2) : plRG W a0 a1 B b6 p1 b2 q2 b3 q3 b4 q4 n M L v9 v10 v11 v12 v13 v14 v15 v16 v17 v18 v19 v20 v21 v22 v23 v24 v25 v26 v27 v28 v29 v5 W2 :=
  ⟨below_step H.g hb, H.n6, (hb.block _ (blk_lt H.bx)).trans H.bx, (hb.block _ (blk_lt H.rs)).trans H.rs, (hb.block _ (blk_lt H.p)).trans H.p, H.mem.below hb, H.h0, H.h1, H.h2, H.h3, H.h4, H.h5, H.h6, H.h7, H.h8, H.h9, H.h10, H.h11, H.h12, H.h13, H.h14, H.h15, H.h16, H.h17, H.h18, H.h19, H.h20, H.h22, H.o21⟩
/-- What 'toGoal' answers: are there moves to the goal, and what is known. -/
def plGo (k d : Nat) (a0 a1 : ByteArray) : Option (Bool × plM) := (impl_IsPond.f a0).bind fun p1 => if p1 = true then (impl_IsPond.f a1).bind fun b2 => if b2 = true then if a0.size = a1.size then (plOf (plIs a1) k d [] a0).bind fun r => some (decide (0 < r.1.2.2), r.2) else some (false, []) else some (false, []) else some (false, [])
theorem plGo_of {k d : Nat} {a0 a1 : ByteArray} {ok : Bool} {M : plM} (h : plGo k d a0 a1 = some (ok, M)) : ∃ (p1 b2 : Bool) (n : plF) (M1 : plM), impl_IsPond.f a0 = some p1 ∧ (p1 = true → impl_IsPond.f a1 = some b2) ∧ (((p1 && b2) && ((a0.size : Int) == (a1.size : Int))) = true → plOf (plIs a1) k d [] a0 = some (n, M1)) ∧ ok = (((p1 && b2) && ((a0.size : Int) == (a1.size : Int))) && decide (0 < n.2.2)) ∧ M = if (((p1 && b2) && ((a0.size : Int) == (a1.size : Int)))) = true then M1 else [] := by
  obtain ⟨p1, h1, h⟩ := Option.bind_eq_some_iff.mp h
  cases p1 with
  | false =>
    simp only [Bool.false_eq_true, if_false, Option.some.injEq, Prod.mk.injEq] at h
    obtain ⟨rfl, rfl⟩ := h
    exact ⟨false, false, (0, 0, 0), [], h1, nofun, by simp, by simp, by simp⟩
  | true =>
    rw [if_pos rfl] at h
    obtain ⟨b2, h2, h⟩ := Option.bind_eq_some_iff.mp h
    cases b2 with
    | false =>
      simp only [Bool.false_eq_true, if_false, Option.some.injEq, Prod.mk.injEq] at h
      obtain ⟨rfl, rfl⟩ := h
      exact ⟨true, false, (0, 0, 0), [], h1, fun _ => h2, by simp, by simp, by simp⟩
    | true =>
      rw [if_pos rfl] at h
      by_cases hs : a0.size = a1.size
      · have hs' : ((a0.size : Int) == (a1.size : Int)) = true := beq_iff_eq.2 (by omega)
        rw [if_pos hs] at h
        obtain ⟨⟨n, M1⟩, h3, h⟩ := Option.bind_eq_some_iff.mp h
        simp only [Option.some.injEq, Prod.mk.injEq] at h
        obtain ⟨rfl, rfl⟩ := h
        exact ⟨true, true, n, M1, h1, fun _ => h2, fun _ => h3, by rw [hs']; rfl, by rw [hs']; rfl⟩
      · have hs' : ((a0.size : Int) == (a1.size : Int)) = false := beq_eq_false_iff_ne.2 (by omega)
        rw [if_neg hs] at h
        simp only [Option.some.injEq, Prod.mk.injEq] at h
        obtain ⟨rfl, rfl⟩ := h
        exact ⟨true, true, (0, 0, 0), [], h1, fun _ => h2, by rw [hs']; simp, by rw [hs']; rfl, by rw [hs']; rfl⟩
set_option maxHeartbeats 8000000 in
set_option maxRecDepth 100000 in
theorem plGo_walk (k d : Nat) (a0 a1 : ByteArray) (ok : Bool) (M : plM) (W : World) (h : plGo k d a0 a1 = some (ok, M)) : Calls Tryd.prog 45 #[.string a0, .string a1] W fun e W' => ∃ B, e = .returned (.tuple #[.agg #[(.func (.func 67) #[] #[.pointer (some ⟨W.heap.size, 0, none⟩)]), .map (some B)], .bool ok]) ∧ W.heap.size ≤ B ∧ plBox W' W.heap.size a1 ∧ plMem W' B M ∧ Below W.heap.size W W' := by
  obtain ⟨p1, b2, n, M1, h1, h2, h3, hok, hM⟩ := plGo_of h
  obtain ⟨b3, hb3⟩ : ∃ b3 : Bool, ((a0.size : Int) == (a1.size : Int)) = b3 := ⟨_, rfl⟩
  rw [hb3] at h3 hok hM
  obtain ⟨b4, hb4⟩ : ∃ b4 : Bool, decide (0 < n.2.2) = b4 := ⟨_, rfl⟩
  rw [hb4] at hok
  obtain ⟨q2, hq2⟩ : ∃ q2 : Bool, q2 = (p1 && b2) := ⟨_, rfl⟩
  rw [← hq2] at h3 hok hM
  obtain ⟨q3, hq3⟩ : ∃ q3 : Bool, q3 = (q2 && b3) := ⟨_, rfl⟩
  rw [← hq3] at h3 hok hM
  have HMQ := Aside0.mk hM
  clear hM
  have HP1 := Aside0.mk h1
  have HP2 := Aside0.mk h2
  have HOF := Aside0.mk h3
  have HQ2 := Aside0.mk hq2
  have HQ3 := Aside0.mk hq3
  have HQ4 := Aside0.mk hok
  have HB3 := Aside0.mk hb3
  have HB4 := Aside0.mk hb4
  have h20 := Aside0.mk (show ((W.alloc (.cells #[.string a1] 9)).alloc (.cells #[.nilFunc, .map none] 51)).heap[W.heap.size]? = some (.cells #[.string a1] 9 (0, 0)) from (Below.heap_alloc _ _ _ (by simp)).trans (blk_new W _))
  have h21 := Aside0.mk (show ((W.alloc (.cells #[.string a1] 9)).alloc (.cells #[.nilFunc, .map none] 51)).heap[W.heap.size + 1]? = some (.cells #[.nilFunc, .map none] 51 (0, 0)) from by have := blk_new (W.alloc (.cells #[.string a1] 9)) (.cells #[.nilFunc, .map none] 51); rw [show (W.alloc (.cells #[.string a1] 9)).heap.size = W.heap.size + 1 from by simp] at this; exact this)
  clear h h1 h2 h3 hq2 hq3 hok hb3 hb4
  go_enter Tryd.func45, Tryd.ntmps45
  go_wp2_with (first | (go_at_call 51; (refine (plTo_walk 67 _ _).mono ?_); rintro e w3 ⟨B, rfl, hB, hm, hb⟩; have HBW := Aside0.mk (show W.heap.size + 2 ≤ B from by simpa using hB); have HM3 := Aside0.mk hm; have HBL := Aside0.mk hb; clear hB hm hb))
  refine region_inv (J := fun L a Wc => ∃ v9 v10 v11 v12 v13 v14 v15 v16 v17 v18 v19 v20 v21 v22 v23 v24 v25 v26 v27 v28 v29 v5 : Value, a = { tmps := #[Value.string a0, Value.string a1, undef, Value.pointer (some { block := W.heap.size, off := 0 }), Value.pointer (some { block := W.heap.size + 1, off := 0 }), v5, Value.pointer (some { block := w3.heap.size, off := 0 }), Value.func (Fn.func 67) #[] #[Value.pointer (some { block := W.heap.size, off := 0 })], Value.agg #[Value.func (Fn.func 67) #[] #[Value.pointer (some { block := W.heap.size, off := 0 })], Value.map (some B)], v9, v10, v11, v12, v13, v14, v15, v16, v17, v18, v19, v20, v21, v22, v23, v24, v25, v26, v27, v28, v29], defers := [] } ∧ plRG W a0 a1 B w3.heap.size p1 b2 q2 b3 q3 b4 ok n M1 L v9 v10 v11 v12 v13 v14 v15 v16 v17 v18 v19 v20 v21 v22 v23 v24 v25 v26 v27 v28 v29 v5 Wc) (by kernel_rfl) (by kernel_rfl) ?start ?step ?fin
  case start =>
    have hl := HM3.out.lt
    have n2 : ((W.alloc (.cells #[.string a1] 9)).alloc (.cells #[.nilFunc, .map none] 51)).heap.size = W.heap.size + 2 := by simp
    have k1 := HBL.out
    have k2 := below_alloc (Below.refl w3.heap.size w3) (.cells #[(.func (.func 67) #[] #[.pointer (some ⟨W.heap.size, 0, none⟩)]), .map (some B)] 51)
    refine ⟨_, _, _, _, _, _, _, _, _, _, _, _, _, _, _, _, _, _, _, _, _, _, rfl, ⟨?_, ⟨HBW.out, hl⟩, ?_, ?_, ?_, ?_, nofun, nofun, nofun, nofun, nofun, nofun, nofun, nofun, nofun, nofun, nofun, nofun, nofun, nofun, nofun, nofun, nofun, nofun, nofun, nofun, nofun, nofun, nofun⟩⟩
    · exact below_drew1 (below_alloc (below_step (below_alloc (below_alloc (Below.refl _ _) _) _) k1) _)
    · exact (k2.block _ (by have := HBW.out; omega)).trans ((k1.block _ (by omega)).trans h20.out)
    · rw [if_neg (by simp)]; exact (k2.block _ (by have := HBW.out; omega)).trans ((k1.block _ (by omega)).trans h21.out)
    · exact blk_new w3 _
    · rw [if_neg (by simp)]; exact (HM3.out.below k2).below (below_drew1 (Below.refl _ _))
  case step =>
    rintro L a Wc j ob ho hL hp ⟨v9, v10, v11, v12, v13, v14, v15, v16, v17, v18, v19, v20, v21, v22, v23, v24, v25, v26, v27, v28, v29, v5, rfl, H⟩
    have hj : j < 23 := (Array.getElem?_eq_some_iff.1 ho).1
    rcases (show j = 0 ∨ j = 1 ∨ j = 2 ∨ j = 3 ∨ j = 4 ∨ j = 5 ∨ j = 6 ∨ j = 7 ∨ j = 8 ∨ j = 9 ∨ j = 10 ∨ j = 11 ∨ j = 12 ∨ j = 13 ∨ j = 14 ∨ j = 15 ∨ j = 16 ∨ j = 17 ∨ j = 18 ∨ j = 19 ∨ j = 20 ∨ j = 21 ∨ j = 22 by omega) with rfl | rfl | rfl | rfl | rfl | rfl | rfl | rfl | rfl | rfl | rfl | rfl | rfl | rfl | rfl | rfl | rfl | rfl | rfl | rfl | rfl | rfl | rfl
    all_goals (obtain rfl : _ = ob := Option.some.inj (show some _ = some ob from ho); simp [Region.binds] at hp; refine plOp_of rfl (fun K hK => ?_))
    · -- operation 0
      have d0 : Wc.cell? ⟨w3.heap.size, 0, none⟩ = some (.func (.func 67) #[] #[.pointer (some ⟨W.heap.size, 0, none⟩)]) := by rw [blk_cell H.p]; rfl
      have d1 : Wc.cell? ⟨w3.heap.size, 1, none⟩ = some (.map (some B)) := by rw [blk_cell H.p]; rfl
      go_simp
      refine Or.inl ?_
      have H1 := H
      refine hK _ _ ⟨_, v10, v11, v12, v13, v14, v15, v16, v17, v18, v19, v20, v21, v22, v23, v24, v25, v26, v27, v28, v29, v5, rfl, ⟨?_, ?_, ?_, ?_, ?_, ?_, ?_, ?_, ?_, ?_, ?_, ?_, ?_, ?_, ?_, ?_, ?_, ?_, ?_, ?_, ?_, ?_, ?_, ?_, ?_, ?_, ?_, ?_, ?_⟩⟩
      · exact H1.g
      · exact H1.n6
      · exact H1.bx
      · exact by simpa using H1.rs
      · exact H1.p
      · exact by simpa using H1.mem
      · exact fun _ => rfl
      · exact fun hl => H1.h1 (by simpa using hl)
      · exact fun hl => H1.h2 (by simpa using hl)
      · exact fun hl => H1.h3 (by simpa using hl)
      · exact fun hl => H1.h4 (by simpa using hl)
      · exact fun hl => H1.h5 (by simpa using hl)
      · exact fun hl => H1.h6 (by simpa using hl)
      · exact fun hl => H1.h7 (by simpa using hl)
      · exact fun hl => H1.h8 (by simpa using hl)
      · exact fun hl => H1.h9 (by simpa using hl)
      · exact fun hl => H1.h10 (by simpa using hl)
      · exact fun hl => H1.h11 (by simpa using hl)
      · exact fun hl => H1.h12 (by simpa using hl)
      · exact fun hl => H1.h13 (by simpa using hl)
      · exact fun hl => H1.h14 (by simpa using hl)
      · exact fun hl => H1.h15 (by simpa using hl)
      · exact fun hl => H1.h16 (by simpa using hl)
      · exact fun hl => H1.h17 (by simpa using hl)
      · exact fun hl => H1.h18 (by simpa using hl)
      · exact fun hl => H1.h19 (by simpa using hl)
      · exact fun hl => H1.h20 (by simpa using hl)
      · exact fun hl => H1.h22 (by simpa using hl)
      · exact fun hl => by have := H1.o21 (by simpa using hl); simp [this]
    · -- operation 1
      go_simp
      refine Or.inl ?_
      have H1 := H
      refine hK _ _ ⟨v9, _, v11, v12, v13, v14, v15, v16, v17, v18, v19, v20, v21, v22, v23, v24, v25, v26, v27, v28, v29, v5, rfl, ⟨?_, ?_, ?_, ?_, ?_, ?_, ?_, ?_, ?_, ?_, ?_, ?_, ?_, ?_, ?_, ?_, ?_, ?_, ?_, ?_, ?_, ?_, ?_, ?_, ?_, ?_, ?_, ?_, ?_⟩⟩
      · exact H1.g
      · exact H1.n6
      · exact H1.bx
      · exact by simpa using H1.rs
      · exact H1.p
      · exact by simpa using H1.mem
      · exact fun hl => H1.h0 (by simpa using hl)
      · exact fun _ => rfl
      · exact fun hl => H1.h2 (by simpa using hl)
      · exact fun hl => H1.h3 (by simpa using hl)
      · exact fun hl => H1.h4 (by simpa using hl)
      · exact fun hl => H1.h5 (by simpa using hl)
      · exact fun hl => H1.h6 (by simpa using hl)
      · exact fun hl => H1.h7 (by simpa using hl)
      · exact fun hl => H1.h8 (by simpa using hl)
      · exact fun hl => H1.h9 (by simpa using hl)
      · exact fun hl => H1.h10 (by simpa using hl)
      · exact fun hl => H1.h11 (by simpa using hl)
      · exact fun hl => H1.h12 (by simpa using hl)
      · exact fun hl => H1.h13 (by simpa using hl)
      · exact fun hl => H1.h14 (by simpa using hl)
      · exact fun hl => H1.h15 (by simpa using hl)
      · exact fun hl => H1.h16 (by simpa using hl)
      · exact fun hl => H1.h17 (by simpa using hl)
      · exact fun hl => H1.h18 (by simpa using hl)
      · exact fun hl => H1.h19 (by simpa using hl)
      · exact fun hl => H1.h20 (by simpa using hl)
      · exact fun hl => H1.h22 (by simpa using hl)
      · exact fun hl => by have := H1.o21 (by simpa using hl); simp [this]
    · -- operation 2
      have y1 : L 1 = true := by simp [hp]
      obtain rfl := H.h1 y1
      go_simp
      refine Or.inl ?_
      refine (impl_IsPond.calls a0 p1 _ HP1.out).mono ?_
      rintro e w' ⟨rfl, hbw⟩
      have H1 := H.below hbw
      refine hK _ _ ⟨v9, _, _, v12, v13, v14, v15, v16, v17, v18, v19, v20, v21, v22, v23, v24, v25, v26, v27, v28, v29, v5, rfl, ⟨?_, ?_, ?_, ?_, ?_, ?_, ?_, ?_, ?_, ?_, ?_, ?_, ?_, ?_, ?_, ?_, ?_, ?_, ?_, ?_, ?_, ?_, ?_, ?_, ?_, ?_, ?_, ?_, ?_⟩⟩
      · exact H1.g
      · exact H1.n6
      · exact H1.bx
      · exact by simpa using H1.rs
      · exact H1.p
      · exact by simpa using H1.mem
      · exact fun hl => H1.h0 (by simpa using hl)
      · exact fun hl => H1.h1 (by simpa using hl)
      · exact fun _ => rfl
      · exact fun hl => H1.h3 (by simpa using hl)
      · exact fun hl => H1.h4 (by simpa using hl)
      · exact fun hl => H1.h5 (by simpa using hl)
      · exact fun hl => H1.h6 (by simpa using hl)
      · exact fun hl => H1.h7 (by simpa using hl)
      · exact fun hl => H1.h8 (by simpa using hl)
      · exact fun hl => H1.h9 (by simpa using hl)
      · exact fun hl => H1.h10 (by simpa using hl)
      · exact fun hl => H1.h11 (by simpa using hl)
      · exact fun hl => H1.h12 (by simpa using hl)
      · exact fun hl => H1.h13 (by simpa using hl)
      · exact fun hl => H1.h14 (by simpa using hl)
      · exact fun hl => H1.h15 (by simpa using hl)
      · exact fun hl => H1.h16 (by simpa using hl)
      · exact fun hl => H1.h17 (by simpa using hl)
      · exact fun hl => H1.h18 (by simpa using hl)
      · exact fun hl => H1.h19 (by simpa using hl)
      · exact fun hl => H1.h20 (by simpa using hl)
      · exact fun hl => H1.h22 (by simpa using hl)
      · exact fun hl => by have := H1.o21 (by simpa using hl); simp [this]
    · -- operation 3
      have y2 : L 2 = true := by simp [hp]
      obtain rfl := H.h2 y2
      go_simp
      refine Or.inl ?_
      have H1 := H
      refine hK _ _ ⟨v9, v10, _, _, v13, v14, v15, v16, v17, v18, v19, v20, v21, v22, v23, v24, v25, v26, v27, v28, v29, v5, rfl, ⟨?_, ?_, ?_, ?_, ?_, ?_, ?_, ?_, ?_, ?_, ?_, ?_, ?_, ?_, ?_, ?_, ?_, ?_, ?_, ?_, ?_, ?_, ?_, ?_, ?_, ?_, ?_, ?_, ?_⟩⟩
      · exact H1.g
      · exact H1.n6
      · exact H1.bx
      · exact by simpa using H1.rs
      · exact H1.p
      · exact by simpa using H1.mem
      · exact fun hl => H1.h0 (by simpa using hl)
      · exact fun hl => H1.h1 (by simpa using hl)
      · exact fun hl => H1.h2 (by simpa using hl)
      · exact fun _ => rfl
      · exact fun hl => H1.h4 (by simpa using hl)
      · exact fun hl => H1.h5 (by simpa using hl)
      · exact fun hl => H1.h6 (by simpa using hl)
      · exact fun hl => H1.h7 (by simpa using hl)
      · exact fun hl => H1.h8 (by simpa using hl)
      · exact fun hl => H1.h9 (by simpa using hl)
      · exact fun hl => H1.h10 (by simpa using hl)
      · exact fun hl => H1.h11 (by simpa using hl)
      · exact fun hl => H1.h12 (by simpa using hl)
      · exact fun hl => H1.h13 (by simpa using hl)
      · exact fun hl => H1.h14 (by simpa using hl)
      · exact fun hl => H1.h15 (by simpa using hl)
      · exact fun hl => H1.h16 (by simpa using hl)
      · exact fun hl => H1.h17 (by simpa using hl)
      · exact fun hl => H1.h18 (by simpa using hl)
      · exact fun hl => H1.h19 (by simpa using hl)
      · exact fun hl => H1.h20 (by simpa using hl)
      · exact fun hl => H1.h22 (by simpa using hl)
      · exact fun hl => by have := H1.o21 (by simpa using hl); simp [this]
    · -- operation 4
      have y3 : L 3 = true := by simp [hp]
      obtain rfl := H.h3 y3
      cases p1 with
      | false =>
        go_simp
        have H1 := H
        refine hK _ _ ⟨v9, v10, v11, _, _, v14, v15, v16, v17, v18, v19, v20, v21, v22, v23, v24, v25, v26, v27, v28, v29, v5, rfl, ⟨?_, ?_, ?_, ?_, ?_, ?_, ?_, ?_, ?_, ?_, ?_, ?_, ?_, ?_, ?_, ?_, ?_, ?_, ?_, ?_, ?_, ?_, ?_, ?_, ?_, ?_, ?_, ?_, ?_⟩⟩
        · exact H1.g
        · exact H1.n6
        · exact H1.bx
        · exact by simpa using H1.rs
        · exact H1.p
        · exact by simpa using H1.mem
        · exact fun hl => H1.h0 (by simpa using hl)
        · exact fun hl => H1.h1 (by simpa using hl)
        · exact fun hl => H1.h2 (by simpa using hl)
        · exact fun hl => H1.h3 (by simpa using hl)
        · exact fun _ => by simp
        · exact fun hl => H1.h5 (by simpa using hl)
        · exact fun hl => H1.h6 (by simpa using hl)
        · exact fun hl => H1.h7 (by simpa using hl)
        · exact fun hl => H1.h8 (by simpa using hl)
        · exact fun hl => H1.h9 (by simpa using hl)
        · exact fun hl => H1.h10 (by simpa using hl)
        · exact fun hl => H1.h11 (by simpa using hl)
        · exact fun hl => H1.h12 (by simpa using hl)
        · exact fun hl => H1.h13 (by simpa using hl)
        · exact fun hl => H1.h14 (by simpa using hl)
        · exact fun hl => H1.h15 (by simpa using hl)
        · exact fun hl => H1.h16 (by simpa using hl)
        · exact fun hl => H1.h17 (by simpa using hl)
        · exact fun hl => H1.h18 (by simpa using hl)
        · exact fun hl => H1.h19 (by simpa using hl)
        · exact fun hl => H1.h20 (by simpa using hl)
        · exact fun hl => H1.h22 (by simpa using hl)
        · exact fun hl => by have := H1.o21 (by simpa using hl); simp [this]
      | true =>
        have d0 : Wc.cell? ⟨W.heap.size, 0, none⟩ = some (.string a1) := by rw [blk_cell H.bx]; rfl
        go_simp
        refine Or.inl ?_
        have H1 := H
        refine hK _ _ ⟨v9, v10, v11, _, _, v14, v15, v16, v17, v18, v19, v20, v21, v22, v23, v24, v25, v26, v27, v28, v29, v5, rfl, ⟨?_, ?_, ?_, ?_, ?_, ?_, ?_, ?_, ?_, ?_, ?_, ?_, ?_, ?_, ?_, ?_, ?_, ?_, ?_, ?_, ?_, ?_, ?_, ?_, ?_, ?_, ?_, ?_, ?_⟩⟩
        · exact H1.g
        · exact H1.n6
        · exact H1.bx
        · exact by simpa using H1.rs
        · exact H1.p
        · exact by simpa using H1.mem
        · exact fun hl => H1.h0 (by simpa using hl)
        · exact fun hl => H1.h1 (by simpa using hl)
        · exact fun hl => H1.h2 (by simpa using hl)
        · exact fun hl => H1.h3 (by simpa using hl)
        · exact fun _ => by simp
        · exact fun hl => H1.h5 (by simpa using hl)
        · exact fun hl => H1.h6 (by simpa using hl)
        · exact fun hl => H1.h7 (by simpa using hl)
        · exact fun hl => H1.h8 (by simpa using hl)
        · exact fun hl => H1.h9 (by simpa using hl)
        · exact fun hl => H1.h10 (by simpa using hl)
        · exact fun hl => H1.h11 (by simpa using hl)
        · exact fun hl => H1.h12 (by simpa using hl)
        · exact fun hl => H1.h13 (by simpa using hl)
        · exact fun hl => H1.h14 (by simpa using hl)
        · exact fun hl => H1.h15 (by simpa using hl)
        · exact fun hl => H1.h16 (by simpa using hl)
        · exact fun hl => H1.h17 (by simpa using hl)
        · exact fun hl => H1.h18 (by simpa using hl)
        · exact fun hl => H1.h19 (by simpa using hl)
        · exact fun hl => H1.h20 (by simpa using hl)
        · exact fun hl => H1.h22 (by simpa using hl)
        · exact fun hl => by have := H1.o21 (by simpa using hl); simp [this]
    · -- operation 5
      have y3 : L 3 = true := by simp [hp]
      obtain rfl := H.h3 y3
      cases p1 with
      | false =>
        go_simp
        have H1 := H
        refine hK _ _ ⟨v9, v10, v11, _, v13, _, v15, v16, v17, v18, v19, v20, v21, v22, v23, v24, v25, v26, v27, v28, v29, v5, rfl, ⟨?_, ?_, ?_, ?_, ?_, ?_, ?_, ?_, ?_, ?_, ?_, ?_, ?_, ?_, ?_, ?_, ?_, ?_, ?_, ?_, ?_, ?_, ?_, ?_, ?_, ?_, ?_, ?_, ?_⟩⟩
        · exact H1.g
        · exact H1.n6
        · exact H1.bx
        · exact by simpa using H1.rs
        · exact H1.p
        · exact by simpa using H1.mem
        · exact fun hl => H1.h0 (by simpa using hl)
        · exact fun hl => H1.h1 (by simpa using hl)
        · exact fun hl => H1.h2 (by simpa using hl)
        · exact fun hl => H1.h3 (by simpa using hl)
        · exact fun hl => H1.h4 (by simpa using hl)
        · exact fun _ => by simp
        · exact fun hl => H1.h6 (by simpa using hl)
        · exact fun hl => H1.h7 (by simpa using hl)
        · exact fun hl => H1.h8 (by simpa using hl)
        · exact fun hl => H1.h9 (by simpa using hl)
        · exact fun hl => H1.h10 (by simpa using hl)
        · exact fun hl => H1.h11 (by simpa using hl)
        · exact fun hl => H1.h12 (by simpa using hl)
        · exact fun hl => H1.h13 (by simpa using hl)
        · exact fun hl => H1.h14 (by simpa using hl)
        · exact fun hl => H1.h15 (by simpa using hl)
        · exact fun hl => H1.h16 (by simpa using hl)
        · exact fun hl => H1.h17 (by simpa using hl)
        · exact fun hl => H1.h18 (by simpa using hl)
        · exact fun hl => H1.h19 (by simpa using hl)
        · exact fun hl => H1.h20 (by simpa using hl)
        · exact fun hl => H1.h22 (by simpa using hl)
        · exact fun hl => by have := H1.o21 (by simpa using hl); simp [this]
      | true =>
        have y4 : L 4 = true := by simp [hp]
        have e4 := H.h4 y4
        rw [if_pos rfl] at e4
        subst e4
        go_simp
        refine Or.inl ?_
        refine (impl_IsPond.calls a1 b2 _ (HP2.out rfl)).mono ?_
        rintro e w' ⟨rfl, hbw⟩
        have H1 := H.below hbw
        refine hK _ _ ⟨v9, v10, v11, _, _, _, v15, v16, v17, v18, v19, v20, v21, v22, v23, v24, v25, v26, v27, v28, v29, v5, rfl, ⟨?_, ?_, ?_, ?_, ?_, ?_, ?_, ?_, ?_, ?_, ?_, ?_, ?_, ?_, ?_, ?_, ?_, ?_, ?_, ?_, ?_, ?_, ?_, ?_, ?_, ?_, ?_, ?_, ?_⟩⟩
        · exact H1.g
        · exact H1.n6
        · exact H1.bx
        · exact by simpa using H1.rs
        · exact H1.p
        · exact by simpa using H1.mem
        · exact fun hl => H1.h0 (by simpa using hl)
        · exact fun hl => H1.h1 (by simpa using hl)
        · exact fun hl => H1.h2 (by simpa using hl)
        · exact fun hl => H1.h3 (by simpa using hl)
        · exact fun _ => by simp
        · exact fun _ => by simp
        · exact fun hl => H1.h6 (by simpa using hl)
        · exact fun hl => H1.h7 (by simpa using hl)
        · exact fun hl => H1.h8 (by simpa using hl)
        · exact fun hl => H1.h9 (by simpa using hl)
        · exact fun hl => H1.h10 (by simpa using hl)
        · exact fun hl => H1.h11 (by simpa using hl)
        · exact fun hl => H1.h12 (by simpa using hl)
        · exact fun hl => H1.h13 (by simpa using hl)
        · exact fun hl => H1.h14 (by simpa using hl)
        · exact fun hl => H1.h15 (by simpa using hl)
        · exact fun hl => H1.h16 (by simpa using hl)
        · exact fun hl => H1.h17 (by simpa using hl)
        · exact fun hl => H1.h18 (by simpa using hl)
        · exact fun hl => H1.h19 (by simpa using hl)
        · exact fun hl => H1.h20 (by simpa using hl)
        · exact fun hl => H1.h22 (by simpa using hl)
        · exact fun hl => by have := H1.o21 (by simpa using hl); simp [this]
    · -- operation 6
      have y3 : L 3 = true := by simp [hp]
      obtain rfl := H.h3 y3
      have y5 : L 5 = true := by simp [hp]
      have e5 := H.h5 y5
      cases p1 with
      | false =>
        rw [if_neg (by decide)] at e5
        subst e5
        go_simp
        refine Or.inl ?_
        have H1 := H
        refine hK _ _ ⟨v9, v10, v11, _, v13, _, _, v16, v17, v18, v19, v20, v21, v22, v23, v24, v25, v26, v27, v28, v29, v5, rfl, ⟨?_, ?_, ?_, ?_, ?_, ?_, ?_, ?_, ?_, ?_, ?_, ?_, ?_, ?_, ?_, ?_, ?_, ?_, ?_, ?_, ?_, ?_, ?_, ?_, ?_, ?_, ?_, ?_, ?_⟩⟩
        · exact H1.g
        · exact H1.n6
        · exact H1.bx
        · exact by simpa using H1.rs
        · exact H1.p
        · exact by simpa using H1.mem
        · exact fun hl => H1.h0 (by simpa using hl)
        · exact fun hl => H1.h1 (by simpa using hl)
        · exact fun hl => H1.h2 (by simpa using hl)
        · exact fun hl => H1.h3 (by simpa using hl)
        · exact fun hl => H1.h4 (by simpa using hl)
        · exact fun _ => by simp
        · exact fun _ => by rw [HQ2.out]; rfl
        · exact fun hl => H1.h7 (by simpa using hl)
        · exact fun hl => H1.h8 (by simpa using hl)
        · exact fun hl => H1.h9 (by simpa using hl)
        · exact fun hl => H1.h10 (by simpa using hl)
        · exact fun hl => H1.h11 (by simpa using hl)
        · exact fun hl => H1.h12 (by simpa using hl)
        · exact fun hl => H1.h13 (by simpa using hl)
        · exact fun hl => H1.h14 (by simpa using hl)
        · exact fun hl => H1.h15 (by simpa using hl)
        · exact fun hl => H1.h16 (by simpa using hl)
        · exact fun hl => H1.h17 (by simpa using hl)
        · exact fun hl => H1.h18 (by simpa using hl)
        · exact fun hl => H1.h19 (by simpa using hl)
        · exact fun hl => H1.h20 (by simpa using hl)
        · exact fun hl => H1.h22 (by simpa using hl)
        · exact fun hl => by have := H1.o21 (by simpa using hl); simp [this]
      | true =>
        rw [if_pos rfl] at e5
        subst e5
        go_simp
        refine Or.inl ?_
        have H1 := H
        refine hK _ _ ⟨v9, v10, v11, _, v13, _, _, v16, v17, v18, v19, v20, v21, v22, v23, v24, v25, v26, v27, v28, v29, v5, rfl, ⟨?_, ?_, ?_, ?_, ?_, ?_, ?_, ?_, ?_, ?_, ?_, ?_, ?_, ?_, ?_, ?_, ?_, ?_, ?_, ?_, ?_, ?_, ?_, ?_, ?_, ?_, ?_, ?_, ?_⟩⟩
        · exact H1.g
        · exact H1.n6
        · exact H1.bx
        · exact by simpa using H1.rs
        · exact H1.p
        · exact by simpa using H1.mem
        · exact fun hl => H1.h0 (by simpa using hl)
        · exact fun hl => H1.h1 (by simpa using hl)
        · exact fun hl => H1.h2 (by simpa using hl)
        · exact fun hl => H1.h3 (by simpa using hl)
        · exact fun hl => H1.h4 (by simpa using hl)
        · exact fun _ => by simp
        · exact fun _ => by rw [HQ2.out]; rfl
        · exact fun hl => H1.h7 (by simpa using hl)
        · exact fun hl => H1.h8 (by simpa using hl)
        · exact fun hl => H1.h9 (by simpa using hl)
        · exact fun hl => H1.h10 (by simpa using hl)
        · exact fun hl => H1.h11 (by simpa using hl)
        · exact fun hl => H1.h12 (by simpa using hl)
        · exact fun hl => H1.h13 (by simpa using hl)
        · exact fun hl => H1.h14 (by simpa using hl)
        · exact fun hl => H1.h15 (by simpa using hl)
        · exact fun hl => H1.h16 (by simpa using hl)
        · exact fun hl => H1.h17 (by simpa using hl)
        · exact fun hl => H1.h18 (by simpa using hl)
        · exact fun hl => H1.h19 (by simpa using hl)
        · exact fun hl => H1.h20 (by simpa using hl)
        · exact fun hl => H1.h22 (by simpa using hl)
        · exact fun hl => by have := H1.o21 (by simpa using hl); simp [this]
    · -- operation 7
      have y6 : L 6 = true := by simp [hp]
      obtain rfl := H.h6 y6
      go_simp
      refine Or.inl ?_
      have H1 := H
      refine hK _ _ ⟨v9, v10, v11, v12, v13, v14, _, _, v17, v18, v19, v20, v21, v22, v23, v24, v25, v26, v27, v28, v29, v5, rfl, ⟨?_, ?_, ?_, ?_, ?_, ?_, ?_, ?_, ?_, ?_, ?_, ?_, ?_, ?_, ?_, ?_, ?_, ?_, ?_, ?_, ?_, ?_, ?_, ?_, ?_, ?_, ?_, ?_, ?_⟩⟩
      · exact H1.g
      · exact H1.n6
      · exact H1.bx
      · exact by simpa using H1.rs
      · exact H1.p
      · exact by simpa using H1.mem
      · exact fun hl => H1.h0 (by simpa using hl)
      · exact fun hl => H1.h1 (by simpa using hl)
      · exact fun hl => H1.h2 (by simpa using hl)
      · exact fun hl => H1.h3 (by simpa using hl)
      · exact fun hl => H1.h4 (by simpa using hl)
      · exact fun hl => H1.h5 (by simpa using hl)
      · exact fun hl => H1.h6 (by simpa using hl)
      · exact fun _ => rfl
      · exact fun hl => H1.h8 (by simpa using hl)
      · exact fun hl => H1.h9 (by simpa using hl)
      · exact fun hl => H1.h10 (by simpa using hl)
      · exact fun hl => H1.h11 (by simpa using hl)
      · exact fun hl => H1.h12 (by simpa using hl)
      · exact fun hl => H1.h13 (by simpa using hl)
      · exact fun hl => H1.h14 (by simpa using hl)
      · exact fun hl => H1.h15 (by simpa using hl)
      · exact fun hl => H1.h16 (by simpa using hl)
      · exact fun hl => H1.h17 (by simpa using hl)
      · exact fun hl => H1.h18 (by simpa using hl)
      · exact fun hl => H1.h19 (by simpa using hl)
      · exact fun hl => H1.h20 (by simpa using hl)
      · exact fun hl => H1.h22 (by simpa using hl)
      · exact fun hl => by have := H1.o21 (by simpa using hl); simp [this]
    · -- operation 8
      have y7 : L 7 = true := by simp [hp]
      obtain rfl := H.h7 y7
      cases q2 with
      | false =>
        go_simp
        have H1 := H
        refine hK _ _ ⟨v9, v10, v11, v12, v13, v14, v15, _, _, v18, v19, v20, v21, v22, v23, v24, v25, v26, v27, v28, v29, v5, rfl, ⟨?_, ?_, ?_, ?_, ?_, ?_, ?_, ?_, ?_, ?_, ?_, ?_, ?_, ?_, ?_, ?_, ?_, ?_, ?_, ?_, ?_, ?_, ?_, ?_, ?_, ?_, ?_, ?_, ?_⟩⟩
        · exact H1.g
        · exact H1.n6
        · exact H1.bx
        · exact by simpa using H1.rs
        · exact H1.p
        · exact by simpa using H1.mem
        · exact fun hl => H1.h0 (by simpa using hl)
        · exact fun hl => H1.h1 (by simpa using hl)
        · exact fun hl => H1.h2 (by simpa using hl)
        · exact fun hl => H1.h3 (by simpa using hl)
        · exact fun hl => H1.h4 (by simpa using hl)
        · exact fun hl => H1.h5 (by simpa using hl)
        · exact fun hl => H1.h6 (by simpa using hl)
        · exact fun hl => H1.h7 (by simpa using hl)
        · exact fun _ => by simp
        · exact fun hl => H1.h9 (by simpa using hl)
        · exact fun hl => H1.h10 (by simpa using hl)
        · exact fun hl => H1.h11 (by simpa using hl)
        · exact fun hl => H1.h12 (by simpa using hl)
        · exact fun hl => H1.h13 (by simpa using hl)
        · exact fun hl => H1.h14 (by simpa using hl)
        · exact fun hl => H1.h15 (by simpa using hl)
        · exact fun hl => H1.h16 (by simpa using hl)
        · exact fun hl => H1.h17 (by simpa using hl)
        · exact fun hl => H1.h18 (by simpa using hl)
        · exact fun hl => H1.h19 (by simpa using hl)
        · exact fun hl => H1.h20 (by simpa using hl)
        · exact fun hl => H1.h22 (by simpa using hl)
        · exact fun hl => by have := H1.o21 (by simpa using hl); simp [this]
      | true =>
        go_simp
        refine Or.inl ?_
        have H1 := H
        refine hK _ _ ⟨v9, v10, v11, v12, v13, v14, v15, _, _, v18, v19, v20, v21, v22, v23, v24, v25, v26, v27, v28, v29, v5, rfl, ⟨?_, ?_, ?_, ?_, ?_, ?_, ?_, ?_, ?_, ?_, ?_, ?_, ?_, ?_, ?_, ?_, ?_, ?_, ?_, ?_, ?_, ?_, ?_, ?_, ?_, ?_, ?_, ?_, ?_⟩⟩
        · exact H1.g
        · exact H1.n6
        · exact H1.bx
        · exact by simpa using H1.rs
        · exact H1.p
        · exact by simpa using H1.mem
        · exact fun hl => H1.h0 (by simpa using hl)
        · exact fun hl => H1.h1 (by simpa using hl)
        · exact fun hl => H1.h2 (by simpa using hl)
        · exact fun hl => H1.h3 (by simpa using hl)
        · exact fun hl => H1.h4 (by simpa using hl)
        · exact fun hl => H1.h5 (by simpa using hl)
        · exact fun hl => H1.h6 (by simpa using hl)
        · exact fun hl => H1.h7 (by simpa using hl)
        · exact fun _ => by simp
        · exact fun hl => H1.h9 (by simpa using hl)
        · exact fun hl => H1.h10 (by simpa using hl)
        · exact fun hl => H1.h11 (by simpa using hl)
        · exact fun hl => H1.h12 (by simpa using hl)
        · exact fun hl => H1.h13 (by simpa using hl)
        · exact fun hl => H1.h14 (by simpa using hl)
        · exact fun hl => H1.h15 (by simpa using hl)
        · exact fun hl => H1.h16 (by simpa using hl)
        · exact fun hl => H1.h17 (by simpa using hl)
        · exact fun hl => H1.h18 (by simpa using hl)
        · exact fun hl => H1.h19 (by simpa using hl)
        · exact fun hl => H1.h20 (by simpa using hl)
        · exact fun hl => H1.h22 (by simpa using hl)
        · exact fun hl => by have := H1.o21 (by simpa using hl); simp [this]
    · -- operation 9
      have y7 : L 7 = true := by simp [hp]
      obtain rfl := H.h7 y7
      cases q2 with
      | false =>
        go_simp
        have H1 := H
        refine hK _ _ ⟨v9, v10, v11, v12, v13, v14, v15, _, v17, _, v19, v20, v21, v22, v23, v24, v25, v26, v27, v28, v29, v5, rfl, ⟨?_, ?_, ?_, ?_, ?_, ?_, ?_, ?_, ?_, ?_, ?_, ?_, ?_, ?_, ?_, ?_, ?_, ?_, ?_, ?_, ?_, ?_, ?_, ?_, ?_, ?_, ?_, ?_, ?_⟩⟩
        · exact H1.g
        · exact H1.n6
        · exact H1.bx
        · exact by simpa using H1.rs
        · exact H1.p
        · exact by simpa using H1.mem
        · exact fun hl => H1.h0 (by simpa using hl)
        · exact fun hl => H1.h1 (by simpa using hl)
        · exact fun hl => H1.h2 (by simpa using hl)
        · exact fun hl => H1.h3 (by simpa using hl)
        · exact fun hl => H1.h4 (by simpa using hl)
        · exact fun hl => H1.h5 (by simpa using hl)
        · exact fun hl => H1.h6 (by simpa using hl)
        · exact fun hl => H1.h7 (by simpa using hl)
        · exact fun hl => H1.h8 (by simpa using hl)
        · exact fun _ => by simp
        · exact fun hl => H1.h10 (by simpa using hl)
        · exact fun hl => H1.h11 (by simpa using hl)
        · exact fun hl => H1.h12 (by simpa using hl)
        · exact fun hl => H1.h13 (by simpa using hl)
        · exact fun hl => H1.h14 (by simpa using hl)
        · exact fun hl => H1.h15 (by simpa using hl)
        · exact fun hl => H1.h16 (by simpa using hl)
        · exact fun hl => H1.h17 (by simpa using hl)
        · exact fun hl => H1.h18 (by simpa using hl)
        · exact fun hl => H1.h19 (by simpa using hl)
        · exact fun hl => H1.h20 (by simpa using hl)
        · exact fun hl => H1.h22 (by simpa using hl)
        · exact fun hl => by have := H1.o21 (by simpa using hl); simp [this]
      | true =>
        have y8 : L 8 = true := by simp [hp]
        have e8 := H.h8 y8
        rw [if_pos rfl] at e8
        subst e8
        go_simp
        refine Or.inl ?_
        have H1 := H
        refine hK _ _ ⟨v9, v10, v11, v12, v13, v14, v15, _, _, _, v19, v20, v21, v22, v23, v24, v25, v26, v27, v28, v29, v5, rfl, ⟨?_, ?_, ?_, ?_, ?_, ?_, ?_, ?_, ?_, ?_, ?_, ?_, ?_, ?_, ?_, ?_, ?_, ?_, ?_, ?_, ?_, ?_, ?_, ?_, ?_, ?_, ?_, ?_, ?_⟩⟩
        · exact H1.g
        · exact H1.n6
        · exact H1.bx
        · exact by simpa using H1.rs
        · exact H1.p
        · exact by simpa using H1.mem
        · exact fun hl => H1.h0 (by simpa using hl)
        · exact fun hl => H1.h1 (by simpa using hl)
        · exact fun hl => H1.h2 (by simpa using hl)
        · exact fun hl => H1.h3 (by simpa using hl)
        · exact fun hl => H1.h4 (by simpa using hl)
        · exact fun hl => H1.h5 (by simpa using hl)
        · exact fun hl => H1.h6 (by simpa using hl)
        · exact fun hl => H1.h7 (by simpa using hl)
        · exact fun _ => by simp
        · exact fun _ => by simp
        · exact fun hl => H1.h10 (by simpa using hl)
        · exact fun hl => H1.h11 (by simpa using hl)
        · exact fun hl => H1.h12 (by simpa using hl)
        · exact fun hl => H1.h13 (by simpa using hl)
        · exact fun hl => H1.h14 (by simpa using hl)
        · exact fun hl => H1.h15 (by simpa using hl)
        · exact fun hl => H1.h16 (by simpa using hl)
        · exact fun hl => H1.h17 (by simpa using hl)
        · exact fun hl => H1.h18 (by simpa using hl)
        · exact fun hl => H1.h19 (by simpa using hl)
        · exact fun hl => H1.h20 (by simpa using hl)
        · exact fun hl => H1.h22 (by simpa using hl)
        · exact fun hl => by have := H1.o21 (by simpa using hl); simp [this]
    · -- operation 10
      have y7 : L 7 = true := by simp [hp]
      obtain rfl := H.h7 y7
      cases q2 with
      | false =>
        go_simp
        have H1 := H
        refine hK _ _ ⟨v9, v10, v11, v12, v13, v14, v15, _, v17, v18, _, v20, v21, v22, v23, v24, v25, v26, v27, v28, v29, v5, rfl, ⟨?_, ?_, ?_, ?_, ?_, ?_, ?_, ?_, ?_, ?_, ?_, ?_, ?_, ?_, ?_, ?_, ?_, ?_, ?_, ?_, ?_, ?_, ?_, ?_, ?_, ?_, ?_, ?_, ?_⟩⟩
        · exact H1.g
        · exact H1.n6
        · exact H1.bx
        · exact by simpa using H1.rs
        · exact H1.p
        · exact by simpa using H1.mem
        · exact fun hl => H1.h0 (by simpa using hl)
        · exact fun hl => H1.h1 (by simpa using hl)
        · exact fun hl => H1.h2 (by simpa using hl)
        · exact fun hl => H1.h3 (by simpa using hl)
        · exact fun hl => H1.h4 (by simpa using hl)
        · exact fun hl => H1.h5 (by simpa using hl)
        · exact fun hl => H1.h6 (by simpa using hl)
        · exact fun hl => H1.h7 (by simpa using hl)
        · exact fun hl => H1.h8 (by simpa using hl)
        · exact fun hl => H1.h9 (by simpa using hl)
        · exact fun _ => by simp
        · exact fun hl => H1.h11 (by simpa using hl)
        · exact fun hl => H1.h12 (by simpa using hl)
        · exact fun hl => H1.h13 (by simpa using hl)
        · exact fun hl => H1.h14 (by simpa using hl)
        · exact fun hl => H1.h15 (by simpa using hl)
        · exact fun hl => H1.h16 (by simpa using hl)
        · exact fun hl => H1.h17 (by simpa using hl)
        · exact fun hl => H1.h18 (by simpa using hl)
        · exact fun hl => H1.h19 (by simpa using hl)
        · exact fun hl => H1.h20 (by simpa using hl)
        · exact fun hl => H1.h22 (by simpa using hl)
        · exact fun hl => by have := H1.o21 (by simpa using hl); simp [this]
      | true =>
        have d0 : Wc.cell? ⟨W.heap.size, 0, none⟩ = some (.string a1) := by rw [blk_cell H.bx]; rfl
        go_simp
        refine Or.inl ?_
        have H1 := H
        refine hK _ _ ⟨v9, v10, v11, v12, v13, v14, v15, _, v17, v18, _, v20, v21, v22, v23, v24, v25, v26, v27, v28, v29, v5, rfl, ⟨?_, ?_, ?_, ?_, ?_, ?_, ?_, ?_, ?_, ?_, ?_, ?_, ?_, ?_, ?_, ?_, ?_, ?_, ?_, ?_, ?_, ?_, ?_, ?_, ?_, ?_, ?_, ?_, ?_⟩⟩
        · exact H1.g
        · exact H1.n6
        · exact H1.bx
        · exact by simpa using H1.rs
        · exact H1.p
        · exact by simpa using H1.mem
        · exact fun hl => H1.h0 (by simpa using hl)
        · exact fun hl => H1.h1 (by simpa using hl)
        · exact fun hl => H1.h2 (by simpa using hl)
        · exact fun hl => H1.h3 (by simpa using hl)
        · exact fun hl => H1.h4 (by simpa using hl)
        · exact fun hl => H1.h5 (by simpa using hl)
        · exact fun hl => H1.h6 (by simpa using hl)
        · exact fun hl => H1.h7 (by simpa using hl)
        · exact fun hl => H1.h8 (by simpa using hl)
        · exact fun hl => H1.h9 (by simpa using hl)
        · exact fun _ => by simp
        · exact fun hl => H1.h11 (by simpa using hl)
        · exact fun hl => H1.h12 (by simpa using hl)
        · exact fun hl => H1.h13 (by simpa using hl)
        · exact fun hl => H1.h14 (by simpa using hl)
        · exact fun hl => H1.h15 (by simpa using hl)
        · exact fun hl => H1.h16 (by simpa using hl)
        · exact fun hl => H1.h17 (by simpa using hl)
        · exact fun hl => H1.h18 (by simpa using hl)
        · exact fun hl => H1.h19 (by simpa using hl)
        · exact fun hl => H1.h20 (by simpa using hl)
        · exact fun hl => H1.h22 (by simpa using hl)
        · exact fun hl => by have := H1.o21 (by simpa using hl); simp [this]
    · -- operation 11
      have y7 : L 7 = true := by simp [hp]
      obtain rfl := H.h7 y7
      cases q2 with
      | false =>
        go_simp
        have H1 := H
        refine hK _ _ ⟨v9, v10, v11, v12, v13, v14, v15, _, v17, v18, v19, _, v21, v22, v23, v24, v25, v26, v27, v28, v29, v5, rfl, ⟨?_, ?_, ?_, ?_, ?_, ?_, ?_, ?_, ?_, ?_, ?_, ?_, ?_, ?_, ?_, ?_, ?_, ?_, ?_, ?_, ?_, ?_, ?_, ?_, ?_, ?_, ?_, ?_, ?_⟩⟩
        · exact H1.g
        · exact H1.n6
        · exact H1.bx
        · exact by simpa using H1.rs
        · exact H1.p
        · exact by simpa using H1.mem
        · exact fun hl => H1.h0 (by simpa using hl)
        · exact fun hl => H1.h1 (by simpa using hl)
        · exact fun hl => H1.h2 (by simpa using hl)
        · exact fun hl => H1.h3 (by simpa using hl)
        · exact fun hl => H1.h4 (by simpa using hl)
        · exact fun hl => H1.h5 (by simpa using hl)
        · exact fun hl => H1.h6 (by simpa using hl)
        · exact fun hl => H1.h7 (by simpa using hl)
        · exact fun hl => H1.h8 (by simpa using hl)
        · exact fun hl => H1.h9 (by simpa using hl)
        · exact fun hl => H1.h10 (by simpa using hl)
        · exact fun _ => by simp
        · exact fun hl => H1.h12 (by simpa using hl)
        · exact fun hl => H1.h13 (by simpa using hl)
        · exact fun hl => H1.h14 (by simpa using hl)
        · exact fun hl => H1.h15 (by simpa using hl)
        · exact fun hl => H1.h16 (by simpa using hl)
        · exact fun hl => H1.h17 (by simpa using hl)
        · exact fun hl => H1.h18 (by simpa using hl)
        · exact fun hl => H1.h19 (by simpa using hl)
        · exact fun hl => H1.h20 (by simpa using hl)
        · exact fun hl => H1.h22 (by simpa using hl)
        · exact fun hl => by have := H1.o21 (by simpa using hl); simp [this]
      | true =>
        have y10 : L 10 = true := by simp [hp]
        have e10 := H.h10 y10
        rw [if_pos rfl] at e10
        subst e10
        go_simp
        refine Or.inl ?_
        have H1 := H
        refine hK _ _ ⟨v9, v10, v11, v12, v13, v14, v15, _, v17, v18, _, _, v21, v22, v23, v24, v25, v26, v27, v28, v29, v5, rfl, ⟨?_, ?_, ?_, ?_, ?_, ?_, ?_, ?_, ?_, ?_, ?_, ?_, ?_, ?_, ?_, ?_, ?_, ?_, ?_, ?_, ?_, ?_, ?_, ?_, ?_, ?_, ?_, ?_, ?_⟩⟩
        · exact H1.g
        · exact H1.n6
        · exact H1.bx
        · exact by simpa using H1.rs
        · exact H1.p
        · exact by simpa using H1.mem
        · exact fun hl => H1.h0 (by simpa using hl)
        · exact fun hl => H1.h1 (by simpa using hl)
        · exact fun hl => H1.h2 (by simpa using hl)
        · exact fun hl => H1.h3 (by simpa using hl)
        · exact fun hl => H1.h4 (by simpa using hl)
        · exact fun hl => H1.h5 (by simpa using hl)
        · exact fun hl => H1.h6 (by simpa using hl)
        · exact fun hl => H1.h7 (by simpa using hl)
        · exact fun hl => H1.h8 (by simpa using hl)
        · exact fun hl => H1.h9 (by simpa using hl)
        · exact fun _ => by simp
        · exact fun _ => by simp
        · exact fun hl => H1.h12 (by simpa using hl)
        · exact fun hl => H1.h13 (by simpa using hl)
        · exact fun hl => H1.h14 (by simpa using hl)
        · exact fun hl => H1.h15 (by simpa using hl)
        · exact fun hl => H1.h16 (by simpa using hl)
        · exact fun hl => H1.h17 (by simpa using hl)
        · exact fun hl => H1.h18 (by simpa using hl)
        · exact fun hl => H1.h19 (by simpa using hl)
        · exact fun hl => H1.h20 (by simpa using hl)
        · exact fun hl => H1.h22 (by simpa using hl)
        · exact fun hl => by have := H1.o21 (by simpa using hl); simp [this]
    · -- operation 12
      have y7 : L 7 = true := by simp [hp]
      obtain rfl := H.h7 y7
      cases q2 with
      | false =>
        go_simp
        have H1 := H
        refine hK _ _ ⟨v9, v10, v11, v12, v13, v14, v15, _, v17, v18, v19, v20, _, v22, v23, v24, v25, v26, v27, v28, v29, v5, rfl, ⟨?_, ?_, ?_, ?_, ?_, ?_, ?_, ?_, ?_, ?_, ?_, ?_, ?_, ?_, ?_, ?_, ?_, ?_, ?_, ?_, ?_, ?_, ?_, ?_, ?_, ?_, ?_, ?_, ?_⟩⟩
        · exact H1.g
        · exact H1.n6
        · exact H1.bx
        · exact by simpa using H1.rs
        · exact H1.p
        · exact by simpa using H1.mem
        · exact fun hl => H1.h0 (by simpa using hl)
        · exact fun hl => H1.h1 (by simpa using hl)
        · exact fun hl => H1.h2 (by simpa using hl)
        · exact fun hl => H1.h3 (by simpa using hl)
        · exact fun hl => H1.h4 (by simpa using hl)
        · exact fun hl => H1.h5 (by simpa using hl)
        · exact fun hl => H1.h6 (by simpa using hl)
        · exact fun hl => H1.h7 (by simpa using hl)
        · exact fun hl => H1.h8 (by simpa using hl)
        · exact fun hl => H1.h9 (by simpa using hl)
        · exact fun hl => H1.h10 (by simpa using hl)
        · exact fun hl => H1.h11 (by simpa using hl)
        · exact fun _ => by simp
        · exact fun hl => H1.h13 (by simpa using hl)
        · exact fun hl => H1.h14 (by simpa using hl)
        · exact fun hl => H1.h15 (by simpa using hl)
        · exact fun hl => H1.h16 (by simpa using hl)
        · exact fun hl => H1.h17 (by simpa using hl)
        · exact fun hl => H1.h18 (by simpa using hl)
        · exact fun hl => H1.h19 (by simpa using hl)
        · exact fun hl => H1.h20 (by simpa using hl)
        · exact fun hl => H1.h22 (by simpa using hl)
        · exact fun hl => by have := H1.o21 (by simpa using hl); simp [this]
      | true =>
        have y9 : L 9 = true := by simp [hp]
        have e9 := H.h9 y9
        rw [if_pos rfl] at e9
        subst e9
        have y11 : L 11 = true := by simp [hp]
        have e11 := H.h11 y11
        rw [if_pos rfl] at e11
        subst e11
        have hb3 := HB3.out
        go_simp
        refine Or.inl ?_
        have H1 := H
        refine hK _ _ ⟨v9, v10, v11, v12, v13, v14, v15, _, v17, _, v19, _, _, v22, v23, v24, v25, v26, v27, v28, v29, v5, rfl, ⟨?_, ?_, ?_, ?_, ?_, ?_, ?_, ?_, ?_, ?_, ?_, ?_, ?_, ?_, ?_, ?_, ?_, ?_, ?_, ?_, ?_, ?_, ?_, ?_, ?_, ?_, ?_, ?_, ?_⟩⟩
        · exact H1.g
        · exact H1.n6
        · exact H1.bx
        · exact by simpa using H1.rs
        · exact H1.p
        · exact by simpa using H1.mem
        · exact fun hl => H1.h0 (by simpa using hl)
        · exact fun hl => H1.h1 (by simpa using hl)
        · exact fun hl => H1.h2 (by simpa using hl)
        · exact fun hl => H1.h3 (by simpa using hl)
        · exact fun hl => H1.h4 (by simpa using hl)
        · exact fun hl => H1.h5 (by simpa using hl)
        · exact fun hl => H1.h6 (by simpa using hl)
        · exact fun hl => H1.h7 (by simpa using hl)
        · exact fun hl => H1.h8 (by simpa using hl)
        · exact fun _ => by simp
        · exact fun hl => H1.h10 (by simpa using hl)
        · exact fun _ => by simp
        · exact fun _ => by simp [HB3.out]
        · exact fun hl => H1.h13 (by simpa using hl)
        · exact fun hl => H1.h14 (by simpa using hl)
        · exact fun hl => H1.h15 (by simpa using hl)
        · exact fun hl => H1.h16 (by simpa using hl)
        · exact fun hl => H1.h17 (by simpa using hl)
        · exact fun hl => H1.h18 (by simpa using hl)
        · exact fun hl => H1.h19 (by simpa using hl)
        · exact fun hl => H1.h20 (by simpa using hl)
        · exact fun hl => H1.h22 (by simpa using hl)
        · exact fun hl => by have := H1.o21 (by simpa using hl); simp [this]
    · -- operation 13
      have y7 : L 7 = true := by simp [hp]
      obtain rfl := H.h7 y7
      have y12 : L 12 = true := by simp [hp]
      have e5 := H.h12 y12
      cases q2 with
      | false =>
        rw [if_neg (by decide)] at e5
        subst e5
        go_simp
        refine Or.inl ?_
        have H1 := H
        refine hK _ _ ⟨v9, v10, v11, v12, v13, v14, v15, _, v17, v18, v19, v20, _, _, v23, v24, v25, v26, v27, v28, v29, v5, rfl, ⟨?_, ?_, ?_, ?_, ?_, ?_, ?_, ?_, ?_, ?_, ?_, ?_, ?_, ?_, ?_, ?_, ?_, ?_, ?_, ?_, ?_, ?_, ?_, ?_, ?_, ?_, ?_, ?_, ?_⟩⟩
        · exact H1.g
        · exact H1.n6
        · exact H1.bx
        · exact by simpa using H1.rs
        · exact H1.p
        · exact by simpa using H1.mem
        · exact fun hl => H1.h0 (by simpa using hl)
        · exact fun hl => H1.h1 (by simpa using hl)
        · exact fun hl => H1.h2 (by simpa using hl)
        · exact fun hl => H1.h3 (by simpa using hl)
        · exact fun hl => H1.h4 (by simpa using hl)
        · exact fun hl => H1.h5 (by simpa using hl)
        · exact fun hl => H1.h6 (by simpa using hl)
        · exact fun hl => H1.h7 (by simpa using hl)
        · exact fun hl => H1.h8 (by simpa using hl)
        · exact fun hl => H1.h9 (by simpa using hl)
        · exact fun hl => H1.h10 (by simpa using hl)
        · exact fun hl => H1.h11 (by simpa using hl)
        · exact fun _ => by simp
        · exact fun _ => by rw [HQ3.out]; rfl
        · exact fun hl => H1.h14 (by simpa using hl)
        · exact fun hl => H1.h15 (by simpa using hl)
        · exact fun hl => H1.h16 (by simpa using hl)
        · exact fun hl => H1.h17 (by simpa using hl)
        · exact fun hl => H1.h18 (by simpa using hl)
        · exact fun hl => H1.h19 (by simpa using hl)
        · exact fun hl => H1.h20 (by simpa using hl)
        · exact fun hl => H1.h22 (by simpa using hl)
        · exact fun hl => by have := H1.o21 (by simpa using hl); simp [this]
      | true =>
        rw [if_pos rfl] at e5
        subst e5
        go_simp
        refine Or.inl ?_
        have H1 := H
        refine hK _ _ ⟨v9, v10, v11, v12, v13, v14, v15, _, v17, v18, v19, v20, _, _, v23, v24, v25, v26, v27, v28, v29, v5, rfl, ⟨?_, ?_, ?_, ?_, ?_, ?_, ?_, ?_, ?_, ?_, ?_, ?_, ?_, ?_, ?_, ?_, ?_, ?_, ?_, ?_, ?_, ?_, ?_, ?_, ?_, ?_, ?_, ?_, ?_⟩⟩
        · exact H1.g
        · exact H1.n6
        · exact H1.bx
        · exact by simpa using H1.rs
        · exact H1.p
        · exact by simpa using H1.mem
        · exact fun hl => H1.h0 (by simpa using hl)
        · exact fun hl => H1.h1 (by simpa using hl)
        · exact fun hl => H1.h2 (by simpa using hl)
        · exact fun hl => H1.h3 (by simpa using hl)
        · exact fun hl => H1.h4 (by simpa using hl)
        · exact fun hl => H1.h5 (by simpa using hl)
        · exact fun hl => H1.h6 (by simpa using hl)
        · exact fun hl => H1.h7 (by simpa using hl)
        · exact fun hl => H1.h8 (by simpa using hl)
        · exact fun hl => H1.h9 (by simpa using hl)
        · exact fun hl => H1.h10 (by simpa using hl)
        · exact fun hl => H1.h11 (by simpa using hl)
        · exact fun _ => by simp
        · exact fun _ => by rw [HQ3.out]; rfl
        · exact fun hl => H1.h14 (by simpa using hl)
        · exact fun hl => H1.h15 (by simpa using hl)
        · exact fun hl => H1.h16 (by simpa using hl)
        · exact fun hl => H1.h17 (by simpa using hl)
        · exact fun hl => H1.h18 (by simpa using hl)
        · exact fun hl => H1.h19 (by simpa using hl)
        · exact fun hl => H1.h20 (by simpa using hl)
        · exact fun hl => H1.h22 (by simpa using hl)
        · exact fun hl => by have := H1.o21 (by simpa using hl); simp [this]
    · -- operation 14
      have y13 : L 13 = true := by simp [hp]
      obtain rfl := H.h13 y13
      go_simp
      refine Or.inl ?_
      have H1 := H
      refine hK _ _ ⟨v9, v10, v11, v12, v13, v14, v15, v16, v17, v18, v19, v20, v21, _, _, v24, v25, v26, v27, v28, v29, v5, rfl, ⟨?_, ?_, ?_, ?_, ?_, ?_, ?_, ?_, ?_, ?_, ?_, ?_, ?_, ?_, ?_, ?_, ?_, ?_, ?_, ?_, ?_, ?_, ?_, ?_, ?_, ?_, ?_, ?_, ?_⟩⟩
      · exact H1.g
      · exact H1.n6
      · exact H1.bx
      · exact by simpa using H1.rs
      · exact H1.p
      · exact by simpa using H1.mem
      · exact fun hl => H1.h0 (by simpa using hl)
      · exact fun hl => H1.h1 (by simpa using hl)
      · exact fun hl => H1.h2 (by simpa using hl)
      · exact fun hl => H1.h3 (by simpa using hl)
      · exact fun hl => H1.h4 (by simpa using hl)
      · exact fun hl => H1.h5 (by simpa using hl)
      · exact fun hl => H1.h6 (by simpa using hl)
      · exact fun hl => H1.h7 (by simpa using hl)
      · exact fun hl => H1.h8 (by simpa using hl)
      · exact fun hl => H1.h9 (by simpa using hl)
      · exact fun hl => H1.h10 (by simpa using hl)
      · exact fun hl => H1.h11 (by simpa using hl)
      · exact fun hl => H1.h12 (by simpa using hl)
      · exact fun hl => H1.h13 (by simpa using hl)
      · exact fun _ => rfl
      · exact fun hl => H1.h15 (by simpa using hl)
      · exact fun hl => H1.h16 (by simpa using hl)
      · exact fun hl => H1.h17 (by simpa using hl)
      · exact fun hl => H1.h18 (by simpa using hl)
      · exact fun hl => H1.h19 (by simpa using hl)
      · exact fun hl => H1.h20 (by simpa using hl)
      · exact fun hl => H1.h22 (by simpa using hl)
      · exact fun hl => by have := H1.o21 (by simpa using hl); simp [this]
    · -- operation 15
      have y14 : L 14 = true := by simp [hp]
      obtain rfl := H.h14 y14
      cases q3 with
      | false =>
        go_simp
        have H1 := H
        refine hK _ _ ⟨v9, v10, v11, v12, v13, v14, v15, v16, v17, v18, v19, v20, v21, v22, _, _, v25, v26, v27, v28, v29, v5, rfl, ⟨?_, ?_, ?_, ?_, ?_, ?_, ?_, ?_, ?_, ?_, ?_, ?_, ?_, ?_, ?_, ?_, ?_, ?_, ?_, ?_, ?_, ?_, ?_, ?_, ?_, ?_, ?_, ?_, ?_⟩⟩
        · exact H1.g
        · exact H1.n6
        · exact H1.bx
        · exact by simpa using H1.rs
        · exact H1.p
        · exact by simpa using H1.mem
        · exact fun hl => H1.h0 (by simpa using hl)
        · exact fun hl => H1.h1 (by simpa using hl)
        · exact fun hl => H1.h2 (by simpa using hl)
        · exact fun hl => H1.h3 (by simpa using hl)
        · exact fun hl => H1.h4 (by simpa using hl)
        · exact fun hl => H1.h5 (by simpa using hl)
        · exact fun hl => H1.h6 (by simpa using hl)
        · exact fun hl => H1.h7 (by simpa using hl)
        · exact fun hl => H1.h8 (by simpa using hl)
        · exact fun hl => H1.h9 (by simpa using hl)
        · exact fun hl => H1.h10 (by simpa using hl)
        · exact fun hl => H1.h11 (by simpa using hl)
        · exact fun hl => H1.h12 (by simpa using hl)
        · exact fun hl => H1.h13 (by simpa using hl)
        · exact fun hl => H1.h14 (by simpa using hl)
        · exact fun _ => by simp
        · exact fun hl => H1.h16 (by simpa using hl)
        · exact fun hl => H1.h17 (by simpa using hl)
        · exact fun hl => H1.h18 (by simpa using hl)
        · exact fun hl => H1.h19 (by simpa using hl)
        · exact fun hl => H1.h20 (by simpa using hl)
        · exact fun hl => H1.h22 (by simpa using hl)
        · exact fun hl => by have := H1.o21 (by simpa using hl); simp [this]
      | true =>
        have d0 : Wc.cell? ⟨w3.heap.size, 0, none⟩ = some (.func (.func 67) #[] #[.pointer (some ⟨W.heap.size, 0, none⟩)]) := by rw [blk_cell H.p]; rfl
        have d1 : Wc.cell? ⟨w3.heap.size, 1, none⟩ = some (.map (some B)) := by rw [blk_cell H.p]; rfl
        go_simp
        refine Or.inl ?_
        have H1 := H
        refine hK _ _ ⟨v9, v10, v11, v12, v13, v14, v15, v16, v17, v18, v19, v20, v21, v22, _, _, v25, v26, v27, v28, v29, v5, rfl, ⟨?_, ?_, ?_, ?_, ?_, ?_, ?_, ?_, ?_, ?_, ?_, ?_, ?_, ?_, ?_, ?_, ?_, ?_, ?_, ?_, ?_, ?_, ?_, ?_, ?_, ?_, ?_, ?_, ?_⟩⟩
        · exact H1.g
        · exact H1.n6
        · exact H1.bx
        · exact by simpa using H1.rs
        · exact H1.p
        · exact by simpa using H1.mem
        · exact fun hl => H1.h0 (by simpa using hl)
        · exact fun hl => H1.h1 (by simpa using hl)
        · exact fun hl => H1.h2 (by simpa using hl)
        · exact fun hl => H1.h3 (by simpa using hl)
        · exact fun hl => H1.h4 (by simpa using hl)
        · exact fun hl => H1.h5 (by simpa using hl)
        · exact fun hl => H1.h6 (by simpa using hl)
        · exact fun hl => H1.h7 (by simpa using hl)
        · exact fun hl => H1.h8 (by simpa using hl)
        · exact fun hl => H1.h9 (by simpa using hl)
        · exact fun hl => H1.h10 (by simpa using hl)
        · exact fun hl => H1.h11 (by simpa using hl)
        · exact fun hl => H1.h12 (by simpa using hl)
        · exact fun hl => H1.h13 (by simpa using hl)
        · exact fun hl => H1.h14 (by simpa using hl)
        · exact fun _ => by simp
        · exact fun hl => H1.h16 (by simpa using hl)
        · exact fun hl => H1.h17 (by simpa using hl)
        · exact fun hl => H1.h18 (by simpa using hl)
        · exact fun hl => H1.h19 (by simpa using hl)
        · exact fun hl => H1.h20 (by simpa using hl)
        · exact fun hl => H1.h22 (by simpa using hl)
        · exact fun hl => by have := H1.o21 (by simpa using hl); simp [this]
    · -- operation 16
      have y14 : L 14 = true := by simp [hp]
      obtain rfl := H.h14 y14
      cases q3 with
      | false =>
        go_simp
        have H1 := H
        refine hK _ _ ⟨v9, v10, v11, v12, v13, v14, v15, v16, v17, v18, v19, v20, v21, v22, _, v24, _, v26, v27, v28, v29, v5, rfl, ⟨?_, ?_, ?_, ?_, ?_, ?_, ?_, ?_, ?_, ?_, ?_, ?_, ?_, ?_, ?_, ?_, ?_, ?_, ?_, ?_, ?_, ?_, ?_, ?_, ?_, ?_, ?_, ?_, ?_⟩⟩
        · exact H1.g
        · exact H1.n6
        · exact H1.bx
        · exact by simpa using H1.rs
        · exact H1.p
        · exact by simpa using H1.mem
        · exact fun hl => H1.h0 (by simpa using hl)
        · exact fun hl => H1.h1 (by simpa using hl)
        · exact fun hl => H1.h2 (by simpa using hl)
        · exact fun hl => H1.h3 (by simpa using hl)
        · exact fun hl => H1.h4 (by simpa using hl)
        · exact fun hl => H1.h5 (by simpa using hl)
        · exact fun hl => H1.h6 (by simpa using hl)
        · exact fun hl => H1.h7 (by simpa using hl)
        · exact fun hl => H1.h8 (by simpa using hl)
        · exact fun hl => H1.h9 (by simpa using hl)
        · exact fun hl => H1.h10 (by simpa using hl)
        · exact fun hl => H1.h11 (by simpa using hl)
        · exact fun hl => H1.h12 (by simpa using hl)
        · exact fun hl => H1.h13 (by simpa using hl)
        · exact fun hl => H1.h14 (by simpa using hl)
        · exact fun hl => H1.h15 (by simpa using hl)
        · exact fun _ => by simp
        · exact fun hl => H1.h17 (by simpa using hl)
        · exact fun hl => H1.h18 (by simpa using hl)
        · exact fun hl => H1.h19 (by simpa using hl)
        · exact fun hl => H1.h20 (by simpa using hl)
        · exact fun hl => H1.h22 (by simpa using hl)
        · exact fun hl => by have := H1.o21 (by simpa using hl); simp [this]
      | true =>
        go_simp
        refine Or.inl ?_
        have H1 := H
        refine hK _ _ ⟨v9, v10, v11, v12, v13, v14, v15, v16, v17, v18, v19, v20, v21, v22, _, v24, _, v26, v27, v28, v29, v5, rfl, ⟨?_, ?_, ?_, ?_, ?_, ?_, ?_, ?_, ?_, ?_, ?_, ?_, ?_, ?_, ?_, ?_, ?_, ?_, ?_, ?_, ?_, ?_, ?_, ?_, ?_, ?_, ?_, ?_, ?_⟩⟩
        · exact H1.g
        · exact H1.n6
        · exact H1.bx
        · exact by simpa using H1.rs
        · exact H1.p
        · exact by simpa using H1.mem
        · exact fun hl => H1.h0 (by simpa using hl)
        · exact fun hl => H1.h1 (by simpa using hl)
        · exact fun hl => H1.h2 (by simpa using hl)
        · exact fun hl => H1.h3 (by simpa using hl)
        · exact fun hl => H1.h4 (by simpa using hl)
        · exact fun hl => H1.h5 (by simpa using hl)
        · exact fun hl => H1.h6 (by simpa using hl)
        · exact fun hl => H1.h7 (by simpa using hl)
        · exact fun hl => H1.h8 (by simpa using hl)
        · exact fun hl => H1.h9 (by simpa using hl)
        · exact fun hl => H1.h10 (by simpa using hl)
        · exact fun hl => H1.h11 (by simpa using hl)
        · exact fun hl => H1.h12 (by simpa using hl)
        · exact fun hl => H1.h13 (by simpa using hl)
        · exact fun hl => H1.h14 (by simpa using hl)
        · exact fun hl => H1.h15 (by simpa using hl)
        · exact fun _ => by simp
        · exact fun hl => H1.h17 (by simpa using hl)
        · exact fun hl => H1.h18 (by simpa using hl)
        · exact fun hl => H1.h19 (by simpa using hl)
        · exact fun hl => H1.h20 (by simpa using hl)
        · exact fun hl => H1.h22 (by simpa using hl)
        · exact fun hl => by have := H1.o21 (by simpa using hl); simp [this]
    · -- operation 17
      have y14 : L 14 = true := by simp [hp]
      obtain rfl := H.h14 y14
      cases q3 with
      | false =>
        go_simp
        have H1 := H
        refine hK _ _ ⟨v9, v10, v11, v12, v13, v14, v15, v16, v17, v18, v19, v20, v21, v22, _, v24, v25, _, v27, v28, v29, v5, rfl, ⟨?_, ?_, ?_, ?_, ?_, ?_, ?_, ?_, ?_, ?_, ?_, ?_, ?_, ?_, ?_, ?_, ?_, ?_, ?_, ?_, ?_, ?_, ?_, ?_, ?_, ?_, ?_, ?_, ?_⟩⟩
        · exact H1.g
        · exact H1.n6
        · exact H1.bx
        · exact by simpa using H1.rs
        · exact H1.p
        · exact by have := H1.mem; simpa using this
        · exact fun hl => H1.h0 (by simpa using hl)
        · exact fun hl => H1.h1 (by simpa using hl)
        · exact fun hl => H1.h2 (by simpa using hl)
        · exact fun hl => H1.h3 (by simpa using hl)
        · exact fun hl => H1.h4 (by simpa using hl)
        · exact fun hl => H1.h5 (by simpa using hl)
        · exact fun hl => H1.h6 (by simpa using hl)
        · exact fun hl => H1.h7 (by simpa using hl)
        · exact fun hl => H1.h8 (by simpa using hl)
        · exact fun hl => H1.h9 (by simpa using hl)
        · exact fun hl => H1.h10 (by simpa using hl)
        · exact fun hl => H1.h11 (by simpa using hl)
        · exact fun hl => H1.h12 (by simpa using hl)
        · exact fun hl => H1.h13 (by simpa using hl)
        · exact fun hl => H1.h14 (by simpa using hl)
        · exact fun hl => H1.h15 (by simpa using hl)
        · exact fun hl => H1.h16 (by simpa using hl)
        · exact fun _ => by simp
        · exact fun hl => H1.h18 (by simpa using hl)
        · exact fun hl => H1.h19 (by simpa using hl)
        · exact fun hl => H1.h20 (by simpa using hl)
        · exact fun hl => H1.h22 (by simpa using hl)
        · exact fun hl => by have := H1.o21 (by simpa using hl); simp [this]
      | true =>
        have y15 : L 15 = true := by simp [hp]
        have e15 := H.h15 y15
        rw [if_pos rfl] at e15
        subst e15
        have y16 : L 16 = true := by simp [hp]
        have e16 := H.h16 y16
        rw [if_pos rfl] at e16
        subst e16
        have hm := H.mem
        rw [if_neg (by simp [hL])] at hm
        go_simp
        refine Or.inl ?_
        refine (plOf_walkG W.heap.size (plIs a1) _ (plGoal W.heap.size a1) k B d [] M1 a0 n Wc (HOF.out rfl) hm H.bx).mono ?_
        rintro e w' ⟨rfl, hm3, hg3⟩
        have H1 := H
        refine hK _ _ ⟨v9, v10, v11, v12, v13, v14, v15, v16, v17, v18, v19, v20, v21, v22, _, _, _, _, v27, v28, v29, v5, rfl, ⟨?_, ?_, ?_, ?_, ?_, ?_, ?_, ?_, ?_, ?_, ?_, ?_, ?_, ?_, ?_, ?_, ?_, ?_, ?_, ?_, ?_, ?_, ?_, ?_, ?_, ?_, ?_, ?_, ?_⟩⟩
        · exact H1.g.grown hg3 H1.g.size (fun k hk => by injection hk with hk; have := H1.n6.1; omega)
        · exact H1.n6
        · exact blk_grown H1.bx hg3 (by intro e; injection e with e; have := H1.n6.1; omega)
        · exact by have := blk_grown H1.rs hg3 (by intro e; injection e with e; have := H1.n6.1; omega); simpa using this
        · exact blk_grown H1.p hg3 (by intro e; injection e with e; have := H1.n6.2; omega)
        · exact by simpa using hm3
        · exact fun hl => H1.h0 (by simpa using hl)
        · exact fun hl => H1.h1 (by simpa using hl)
        · exact fun hl => H1.h2 (by simpa using hl)
        · exact fun hl => H1.h3 (by simpa using hl)
        · exact fun hl => H1.h4 (by simpa using hl)
        · exact fun hl => H1.h5 (by simpa using hl)
        · exact fun hl => H1.h6 (by simpa using hl)
        · exact fun hl => H1.h7 (by simpa using hl)
        · exact fun hl => H1.h8 (by simpa using hl)
        · exact fun hl => H1.h9 (by simpa using hl)
        · exact fun hl => H1.h10 (by simpa using hl)
        · exact fun hl => H1.h11 (by simpa using hl)
        · exact fun hl => H1.h12 (by simpa using hl)
        · exact fun hl => H1.h13 (by simpa using hl)
        · exact fun hl => H1.h14 (by simpa using hl)
        · exact fun _ => by simp
        · exact fun _ => by simp
        · exact fun _ => by rw [if_pos rfl]; rfl
        · exact fun hl => H1.h18 (by simpa using hl)
        · exact fun hl => H1.h19 (by simpa using hl)
        · exact fun hl => H1.h20 (by simpa using hl)
        · exact fun hl => H1.h22 (by simpa using hl)
        · exact fun hl => by have := H1.o21 (by simpa using hl); simp [this]
    · -- operation 18
      have y14 : L 14 = true := by simp [hp]
      obtain rfl := H.h14 y14
      cases q3 with
      | false =>
        go_simp
        have H1 := H
        refine hK _ _ ⟨v9, v10, v11, v12, v13, v14, v15, v16, v17, v18, v19, v20, v21, v22, _, v24, v25, v26, _, v28, v29, v5, rfl, ⟨?_, ?_, ?_, ?_, ?_, ?_, ?_, ?_, ?_, ?_, ?_, ?_, ?_, ?_, ?_, ?_, ?_, ?_, ?_, ?_, ?_, ?_, ?_, ?_, ?_, ?_, ?_, ?_, ?_⟩⟩
        · exact H1.g
        · exact H1.n6
        · exact H1.bx
        · exact by simpa using H1.rs
        · exact H1.p
        · exact by simpa using H1.mem
        · exact fun hl => H1.h0 (by simpa using hl)
        · exact fun hl => H1.h1 (by simpa using hl)
        · exact fun hl => H1.h2 (by simpa using hl)
        · exact fun hl => H1.h3 (by simpa using hl)
        · exact fun hl => H1.h4 (by simpa using hl)
        · exact fun hl => H1.h5 (by simpa using hl)
        · exact fun hl => H1.h6 (by simpa using hl)
        · exact fun hl => H1.h7 (by simpa using hl)
        · exact fun hl => H1.h8 (by simpa using hl)
        · exact fun hl => H1.h9 (by simpa using hl)
        · exact fun hl => H1.h10 (by simpa using hl)
        · exact fun hl => H1.h11 (by simpa using hl)
        · exact fun hl => H1.h12 (by simpa using hl)
        · exact fun hl => H1.h13 (by simpa using hl)
        · exact fun hl => H1.h14 (by simpa using hl)
        · exact fun hl => H1.h15 (by simpa using hl)
        · exact fun hl => H1.h16 (by simpa using hl)
        · exact fun hl => H1.h17 (by simpa using hl)
        · exact fun _ => by simp
        · exact fun hl => H1.h19 (by simpa using hl)
        · exact fun hl => H1.h20 (by simpa using hl)
        · exact fun hl => H1.h22 (by simpa using hl)
        · exact fun hl => by have := H1.o21 (by simpa using hl); simp [this]
      | true =>
        have y17 : L 17 = true := by simp [hp]
        have e17 := H.h17 y17
        rw [if_pos rfl] at e17
        subst e17
        go_simp
        refine Or.inl ?_
        have H1 := H
        refine hK _ _ ⟨v9, v10, v11, v12, v13, v14, v15, v16, v17, v18, v19, v20, v21, v22, _, v24, v25, _, _, v28, v29, v5, rfl, ⟨?_, ?_, ?_, ?_, ?_, ?_, ?_, ?_, ?_, ?_, ?_, ?_, ?_, ?_, ?_, ?_, ?_, ?_, ?_, ?_, ?_, ?_, ?_, ?_, ?_, ?_, ?_, ?_, ?_⟩⟩
        · exact H1.g
        · exact H1.n6
        · exact H1.bx
        · exact by simpa using H1.rs
        · exact H1.p
        · exact by simpa using H1.mem
        · exact fun hl => H1.h0 (by simpa using hl)
        · exact fun hl => H1.h1 (by simpa using hl)
        · exact fun hl => H1.h2 (by simpa using hl)
        · exact fun hl => H1.h3 (by simpa using hl)
        · exact fun hl => H1.h4 (by simpa using hl)
        · exact fun hl => H1.h5 (by simpa using hl)
        · exact fun hl => H1.h6 (by simpa using hl)
        · exact fun hl => H1.h7 (by simpa using hl)
        · exact fun hl => H1.h8 (by simpa using hl)
        · exact fun hl => H1.h9 (by simpa using hl)
        · exact fun hl => H1.h10 (by simpa using hl)
        · exact fun hl => H1.h11 (by simpa using hl)
        · exact fun hl => H1.h12 (by simpa using hl)
        · exact fun hl => H1.h13 (by simpa using hl)
        · exact fun hl => H1.h14 (by simpa using hl)
        · exact fun hl => H1.h15 (by simpa using hl)
        · exact fun hl => H1.h16 (by simpa using hl)
        · exact fun _ => by simp
        · exact fun _ => by simp
        · exact fun hl => H1.h19 (by simpa using hl)
        · exact fun hl => H1.h20 (by simpa using hl)
        · exact fun hl => H1.h22 (by simpa using hl)
        · exact fun hl => by have := H1.o21 (by simpa using hl); simp [this]
    · -- operation 19
      have y14 : L 14 = true := by simp [hp]
      obtain rfl := H.h14 y14
      cases q3 with
      | false =>
        go_simp
        have H1 := H
        refine hK _ _ ⟨v9, v10, v11, v12, v13, v14, v15, v16, v17, v18, v19, v20, v21, v22, _, v24, v25, v26, v27, _, v29, v5, rfl, ⟨?_, ?_, ?_, ?_, ?_, ?_, ?_, ?_, ?_, ?_, ?_, ?_, ?_, ?_, ?_, ?_, ?_, ?_, ?_, ?_, ?_, ?_, ?_, ?_, ?_, ?_, ?_, ?_, ?_⟩⟩
        · exact H1.g
        · exact H1.n6
        · exact H1.bx
        · exact by simpa using H1.rs
        · exact H1.p
        · exact by simpa using H1.mem
        · exact fun hl => H1.h0 (by simpa using hl)
        · exact fun hl => H1.h1 (by simpa using hl)
        · exact fun hl => H1.h2 (by simpa using hl)
        · exact fun hl => H1.h3 (by simpa using hl)
        · exact fun hl => H1.h4 (by simpa using hl)
        · exact fun hl => H1.h5 (by simpa using hl)
        · exact fun hl => H1.h6 (by simpa using hl)
        · exact fun hl => H1.h7 (by simpa using hl)
        · exact fun hl => H1.h8 (by simpa using hl)
        · exact fun hl => H1.h9 (by simpa using hl)
        · exact fun hl => H1.h10 (by simpa using hl)
        · exact fun hl => H1.h11 (by simpa using hl)
        · exact fun hl => H1.h12 (by simpa using hl)
        · exact fun hl => H1.h13 (by simpa using hl)
        · exact fun hl => H1.h14 (by simpa using hl)
        · exact fun hl => H1.h15 (by simpa using hl)
        · exact fun hl => H1.h16 (by simpa using hl)
        · exact fun hl => H1.h17 (by simpa using hl)
        · exact fun hl => H1.h18 (by simpa using hl)
        · exact fun _ => by simp
        · exact fun hl => H1.h20 (by simpa using hl)
        · exact fun hl => H1.h22 (by simpa using hl)
        · exact fun hl => by have := H1.o21 (by simpa using hl); simp [this]
      | true =>
        have y18 : L 18 = true := by simp [hp]
        have e18 := H.h18 y18
        rw [if_pos rfl] at e18
        subst e18
        have hb4 := HB4.out
        go_simp
        refine Or.inl ?_
        have H1 := H
        refine hK _ _ ⟨v9, v10, v11, v12, v13, v14, v15, v16, v17, v18, v19, v20, v21, v22, _, v24, v25, v26, _, _, v29, v5, rfl, ⟨?_, ?_, ?_, ?_, ?_, ?_, ?_, ?_, ?_, ?_, ?_, ?_, ?_, ?_, ?_, ?_, ?_, ?_, ?_, ?_, ?_, ?_, ?_, ?_, ?_, ?_, ?_, ?_, ?_⟩⟩
        · exact H1.g
        · exact H1.n6
        · exact H1.bx
        · exact by simpa using H1.rs
        · exact H1.p
        · exact by simpa using H1.mem
        · exact fun hl => H1.h0 (by simpa using hl)
        · exact fun hl => H1.h1 (by simpa using hl)
        · exact fun hl => H1.h2 (by simpa using hl)
        · exact fun hl => H1.h3 (by simpa using hl)
        · exact fun hl => H1.h4 (by simpa using hl)
        · exact fun hl => H1.h5 (by simpa using hl)
        · exact fun hl => H1.h6 (by simpa using hl)
        · exact fun hl => H1.h7 (by simpa using hl)
        · exact fun hl => H1.h8 (by simpa using hl)
        · exact fun hl => H1.h9 (by simpa using hl)
        · exact fun hl => H1.h10 (by simpa using hl)
        · exact fun hl => H1.h11 (by simpa using hl)
        · exact fun hl => H1.h12 (by simpa using hl)
        · exact fun hl => H1.h13 (by simpa using hl)
        · exact fun hl => H1.h14 (by simpa using hl)
        · exact fun hl => H1.h15 (by simpa using hl)
        · exact fun hl => H1.h16 (by simpa using hl)
        · exact fun hl => H1.h17 (by simpa using hl)
        · exact fun _ => by simp
        · exact fun _ => by simp [HB4.out]
        · exact fun hl => H1.h20 (by simpa using hl)
        · exact fun hl => H1.h22 (by simpa using hl)
        · exact fun hl => by have := H1.o21 (by simpa using hl); simp [this]
    · -- operation 20
      have y14 : L 14 = true := by simp [hp]
      obtain rfl := H.h14 y14
      have y19 : L 19 = true := by simp [hp]
      have e5 := H.h19 y19
      cases q3 with
      | false =>
        rw [if_neg (by decide)] at e5
        subst e5
        go_simp
        refine Or.inl ?_
        have H1 := H
        refine hK _ _ ⟨v9, v10, v11, v12, v13, v14, v15, v16, v17, v18, v19, v20, v21, v22, _, v24, v25, v26, v27, _, _, v5, rfl, ⟨?_, ?_, ?_, ?_, ?_, ?_, ?_, ?_, ?_, ?_, ?_, ?_, ?_, ?_, ?_, ?_, ?_, ?_, ?_, ?_, ?_, ?_, ?_, ?_, ?_, ?_, ?_, ?_, ?_⟩⟩
        · exact H1.g
        · exact H1.n6
        · exact H1.bx
        · exact by simpa using H1.rs
        · exact H1.p
        · exact by simpa using H1.mem
        · exact fun hl => H1.h0 (by simpa using hl)
        · exact fun hl => H1.h1 (by simpa using hl)
        · exact fun hl => H1.h2 (by simpa using hl)
        · exact fun hl => H1.h3 (by simpa using hl)
        · exact fun hl => H1.h4 (by simpa using hl)
        · exact fun hl => H1.h5 (by simpa using hl)
        · exact fun hl => H1.h6 (by simpa using hl)
        · exact fun hl => H1.h7 (by simpa using hl)
        · exact fun hl => H1.h8 (by simpa using hl)
        · exact fun hl => H1.h9 (by simpa using hl)
        · exact fun hl => H1.h10 (by simpa using hl)
        · exact fun hl => H1.h11 (by simpa using hl)
        · exact fun hl => H1.h12 (by simpa using hl)
        · exact fun hl => H1.h13 (by simpa using hl)
        · exact fun hl => H1.h14 (by simpa using hl)
        · exact fun hl => H1.h15 (by simpa using hl)
        · exact fun hl => H1.h16 (by simpa using hl)
        · exact fun hl => H1.h17 (by simpa using hl)
        · exact fun hl => H1.h18 (by simpa using hl)
        · exact fun _ => by simp
        · exact fun _ => by rw [HQ4.out]; rfl
        · exact fun hl => H1.h22 (by simpa using hl)
        · exact fun hl => by have := H1.o21 (by simpa using hl); simp [this]
      | true =>
        rw [if_pos rfl] at e5
        subst e5
        go_simp
        refine Or.inl ?_
        have H1 := H
        refine hK _ _ ⟨v9, v10, v11, v12, v13, v14, v15, v16, v17, v18, v19, v20, v21, v22, _, v24, v25, v26, v27, _, _, v5, rfl, ⟨?_, ?_, ?_, ?_, ?_, ?_, ?_, ?_, ?_, ?_, ?_, ?_, ?_, ?_, ?_, ?_, ?_, ?_, ?_, ?_, ?_, ?_, ?_, ?_, ?_, ?_, ?_, ?_, ?_⟩⟩
        · exact H1.g
        · exact H1.n6
        · exact H1.bx
        · exact by simpa using H1.rs
        · exact H1.p
        · exact by simpa using H1.mem
        · exact fun hl => H1.h0 (by simpa using hl)
        · exact fun hl => H1.h1 (by simpa using hl)
        · exact fun hl => H1.h2 (by simpa using hl)
        · exact fun hl => H1.h3 (by simpa using hl)
        · exact fun hl => H1.h4 (by simpa using hl)
        · exact fun hl => H1.h5 (by simpa using hl)
        · exact fun hl => H1.h6 (by simpa using hl)
        · exact fun hl => H1.h7 (by simpa using hl)
        · exact fun hl => H1.h8 (by simpa using hl)
        · exact fun hl => H1.h9 (by simpa using hl)
        · exact fun hl => H1.h10 (by simpa using hl)
        · exact fun hl => H1.h11 (by simpa using hl)
        · exact fun hl => H1.h12 (by simpa using hl)
        · exact fun hl => H1.h13 (by simpa using hl)
        · exact fun hl => H1.h14 (by simpa using hl)
        · exact fun hl => H1.h15 (by simpa using hl)
        · exact fun hl => H1.h16 (by simpa using hl)
        · exact fun hl => H1.h17 (by simpa using hl)
        · exact fun hl => H1.h18 (by simpa using hl)
        · exact fun _ => by simp
        · exact fun _ => by rw [HQ4.out]; rfl
        · exact fun hl => H1.h22 (by simpa using hl)
        · exact fun hl => by have := H1.o21 (by simpa using hl); simp [this]
    · -- operation 21
      have y0 : L 0 = true := by simp [hp]
      obtain rfl := H.h0 y0
      have y17 : L 17 = true := by simp [hp]
      have hrs := H.rs
      rw [if_neg (by simp [hL])] at hrs
      have c0 : Wc.cell? ⟨W.heap.size + 1, 0, none⟩ = some .nilFunc := by rw [blk_cell hrs]; rfl
      have c1 : Wc.cell? ⟨W.heap.size + 1, 1, none⟩ = some (.map none) := by rw [blk_cell hrs]; rfl
      have f0 := blk_frozen hrs 0
      have f1 := blk_frozen hrs 1
      have n6 := H.n6
      go_simp
      refine Or.inl ?_
      have H1 := H
      refine hK _ _ ⟨_, v10, v11, v12, v13, v14, v15, v16, v17, v18, v19, v20, v21, v22, v23, v24, v25, v26, v27, v28, v29, v5, rfl, ⟨?_, ?_, ?_, ?_, ?_, ?_, ?_, ?_, ?_, ?_, ?_, ?_, ?_, ?_, ?_, ?_, ?_, ?_, ?_, ?_, ?_, ?_, ?_, ?_, ?_, ?_, ?_, ?_, ?_⟩⟩
      · exact (H1.g.setCell (p := ⟨W.heap.size + 1, 0, none⟩) (by show W.heap.size ≤ W.heap.size + 1; omega) _).setCell (p := ⟨W.heap.size + 1, 1, none⟩) (by show W.heap.size ≤ W.heap.size + 1; omega) _
      · exact H1.n6
      · exact ((Below.heap_setCell _ _ _ _ (by show W.heap.size ≠ W.heap.size + 1; omega)).trans (Below.heap_setCell _ _ _ _ (by show W.heap.size ≠ W.heap.size + 1; omega))).trans H1.bx
      · exact by rw [if_pos (by simp)]; exact blk_put (blk_put hrs 0 _ rfl) 1 _ rfl
      · exact ((Below.heap_setCell _ _ _ _ (by show w3.heap.size ≠ W.heap.size + 1; omega)).trans (Below.heap_setCell _ _ _ _ (by show w3.heap.size ≠ W.heap.size + 1; omega))).trans H1.p
      · exact by rw [show (if ((L 17 || (17 == 21)) && q3) = true then M1 else []) = (if (L 17 && q3) = true then M1 else []) from by simp]; exact (H1.mem.set (show B ≠ W.heap.size + 1 by omega) _).set (show B ≠ W.heap.size + 1 by omega) _
      · exact fun _ => rfl
      · exact fun hl => H1.h1 (by simpa using hl)
      · exact fun hl => H1.h2 (by simpa using hl)
      · exact fun hl => H1.h3 (by simpa using hl)
      · exact fun hl => H1.h4 (by simpa using hl)
      · exact fun hl => H1.h5 (by simpa using hl)
      · exact fun hl => H1.h6 (by simpa using hl)
      · exact fun hl => H1.h7 (by simpa using hl)
      · exact fun hl => H1.h8 (by simpa using hl)
      · exact fun hl => H1.h9 (by simpa using hl)
      · exact fun hl => H1.h10 (by simpa using hl)
      · exact fun hl => H1.h11 (by simpa using hl)
      · exact fun hl => H1.h12 (by simpa using hl)
      · exact fun hl => H1.h13 (by simpa using hl)
      · exact fun hl => H1.h14 (by simpa using hl)
      · exact fun hl => H1.h15 (by simpa using hl)
      · exact fun hl => H1.h16 (by simpa using hl)
      · exact fun hl => H1.h17 (by simpa using hl)
      · exact fun hl => H1.h18 (by simpa using hl)
      · exact fun hl => H1.h19 (by simpa using hl)
      · exact fun hl => H1.h20 (by simpa using hl)
      · exact fun hl => H1.h22 (by simpa using hl)
      · exact fun _ => by simp [y17]
    · -- operation 22
      have y20 : L 20 = true := by simp [hp]
      obtain rfl := H.h20 y20
      go_simp
      refine Or.inl ?_
      have H1 := H
      refine hK _ _ ⟨v9, v10, v11, v12, v13, v14, v15, v16, v17, v18, v19, v20, v21, v22, v23, v24, v25, v26, v27, v28, _, _, rfl, ⟨?_, ?_, ?_, ?_, ?_, ?_, ?_, ?_, ?_, ?_, ?_, ?_, ?_, ?_, ?_, ?_, ?_, ?_, ?_, ?_, ?_, ?_, ?_, ?_, ?_, ?_, ?_, ?_, ?_⟩⟩
      · exact H1.g
      · exact H1.n6
      · exact H1.bx
      · exact by simpa using H1.rs
      · exact H1.p
      · exact by simpa using H1.mem
      · exact fun hl => H1.h0 (by simpa using hl)
      · exact fun hl => H1.h1 (by simpa using hl)
      · exact fun hl => H1.h2 (by simpa using hl)
      · exact fun hl => H1.h3 (by simpa using hl)
      · exact fun hl => H1.h4 (by simpa using hl)
      · exact fun hl => H1.h5 (by simpa using hl)
      · exact fun hl => H1.h6 (by simpa using hl)
      · exact fun hl => H1.h7 (by simpa using hl)
      · exact fun hl => H1.h8 (by simpa using hl)
      · exact fun hl => H1.h9 (by simpa using hl)
      · exact fun hl => H1.h10 (by simpa using hl)
      · exact fun hl => H1.h11 (by simpa using hl)
      · exact fun hl => H1.h12 (by simpa using hl)
      · exact fun hl => H1.h13 (by simpa using hl)
      · exact fun hl => H1.h14 (by simpa using hl)
      · exact fun hl => H1.h15 (by simpa using hl)
      · exact fun hl => H1.h16 (by simpa using hl)
      · exact fun hl => H1.h17 (by simpa using hl)
      · exact fun hl => H1.h18 (by simpa using hl)
      · exact fun hl => H1.h19 (by simpa using hl)
      · exact fun hl => H1.h20 (by simpa using hl)
      · exact fun _ => rfl
      · exact fun hl => by have := H1.o21 (by simpa using hl); simp [this]
  case fin =>
    rintro L a Wc hall ⟨v9, v10, v11, v12, v13, v14, v15, v16, v17, v18, v19, v20, v21, v22, v23, v24, v25, v26, v27, v28, v29, v5, rfl, H⟩
    obtain rfl := H.h22 (hall 22 (by decide))
    have hrs := H.rs
    rw [if_pos (hall 21 (by decide))] at hrs
    have hm := H.mem
    rw [hall 17 (by decide), Bool.true_and, ← HMQ.out] at hm
    have c0 : Wc.cell? ⟨W.heap.size + 1, 0, none⟩ = some (.func (.func 67) #[] #[.pointer (some ⟨W.heap.size, 0, none⟩)]) := by rw [blk_cell hrs]; rfl
    have c1 : Wc.cell? ⟨W.heap.size + 1, 1, none⟩ = some (.map (some B)) := by rw [blk_cell hrs]; rfl
    have hg := Aside0.mk H.g
    have hbx := Aside0.mk H.bx
    have hmm := Aside0.mk hm
    clear H hall hrs hm
    go_wp2
    exact bodyPost_ret (v := .tuple #[.agg #[(.func (.func 67) #[] #[.pointer (some ⟨W.heap.size, 0, none⟩)]), .map (some B)], .bool ok]) (by simp [results, Tryd.results45, go_sem, c0, c1]) rfl ⟨B, rfl, by have := HBW.out; omega, hbx.out, hmm.out, hg.out⟩
theorem plGo_le (k d : Nat) (a0 a1 : ByteArray) : LeO (plGo k d a0 a1) (plGo (k + 1) (d + 1) a0 a1) :=
  LeO.bind (LeO.refl _) (fun _ => LeO.ite (LeO.bind (LeO.refl _) (fun _ => LeO.ite (LeO.ite (LeO.bind (plOf_le k (fun _ => LeO.refl _) d [] a0) (fun _ => LeO.refl _)) (LeO.refl _)) (LeO.refl _))) (LeO.refl _))
set_option maxHeartbeats 8000000 in
set_option maxRecDepth 100000 in
theorem plFst_walkGL: ∀ (Bg : Nat), ∀ (E : ByteArray → Option Bool) (Env : World → Prop) (hE : plEnd E 67 #[.pointer (some ⟨Bg, 0, none⟩)] Env) (k B d : Nat) (M : plM) (s : ByteArray) (out : List Int) (W : World), plFst E plLeast k d M s = some out → plMem W B M → Env W →
    Calls Tryd.prog 52 #[.agg #[.func (.func 67) #[] #[.pointer (some ⟨Bg, 0, none⟩)], .map (some B)], .string s, .func (.func 55) #[] #[]] W fun e W' => ∃ v, e = .returned v ∧ plOut W' W.heap.size v out ∧ W.grownBy W' (some B) := by
  intro Bg E Env hE k B d M s out W h hM hEnv
  obtain ⟨⟨f, M1⟩, hf, h⟩ := Option.bind_eq_some_iff.mp h
  dsimp only at h
  by_cases hl : plLeast f ≤ 1000000
  case neg => rw [if_neg hl] at h; cases h
  rw [if_pos hl] at h
  obtain ⟨tf, htf⟩ : ∃ tf : Int, plLeast f = tf := ⟨_, rfl⟩
  rw [htf] at h hl
  have HM := Aside0.mk hM
  have HEnv := Aside0.mk hEnv
  have HF := Aside0.mk hf
  have HT := Aside0.mk htf
  have HL := Aside0.mk hl
  have HH := Aside0.mk h
  clear hM hEnv hf htf hl h
  have HBW := Aside0.mk HM.out.lt
  have hB2 : Below W.heap.size W ((W.alloc (.cells #[.func (.func 67) #[] #[.pointer (some ⟨Bg, 0, none⟩)], .map (some B)] 51)).alloc (.cells #[] 3)) := below_alloc (below_alloc (Below.refl _ _) _) _
  have HF1 := Aside0.mk (show plF1 W B (.func (.func 67) #[] #[.pointer (some ⟨Bg, 0, none⟩)]) ((W.alloc (.cells #[.func (.func 67) #[] #[.pointer (some ⟨Bg, 0, none⟩)], .map (some B)] 51)).alloc (.cells #[] 3)) from ⟨plGrown hB2 _, (Below.heap_alloc _ _ _ (by simp)).trans (blk_new W _)⟩)
  have HM1 := Aside0.mk (HM.out.below hB2)
  have HE1 := Aside0.mk (hE.kept _ _ B M HEnv.out HM.out (plGrown hB2 _))
  have HO1 := Aside0.mk (show plOut ((W.alloc (.cells #[.func (.func 67) #[] #[.pointer (some ⟨Bg, 0, none⟩)], .map (some B)] 51)).alloc (.cells #[] 3)) W.heap.size (.slice (some ⟨W.heap.size + 1, 0, none⟩) 0 0) [] from plOut.nil (by omega) (by have := blk_new (W.alloc (.cells #[.func (.func 67) #[] #[.pointer (some ⟨Bg, 0, none⟩)], .map (some B)] 51)) (.cells #[] 3); rw [show (W.alloc (.cells #[.func (.func 67) #[] #[.pointer (some ⟨Bg, 0, none⟩)], .map (some B)] 51)).heap.size = W.heap.size + 1 from by simp] at this; exact this))
  clear hB2
  go_enter Tryd.func52, Tryd.ntmps52
  go_wp2_with (first | (go_at_call 48; (refine (plOf_walkG Bg E Env hE k B d M M1 s f _ HF.out HM1.out HE1.out).mono ?_); rintro e w3 ⟨rfl, hm3, hg3⟩; have HM3 := Aside0.mk hm3; have HF3 := Aside0.mk (HF1.out.kept HBW.out hg3); have HO3 := Aside0.mk (HO1.out.kept hg3 HBW.out); clear hm3 hg3) | (go_at_call 55; (refine (impl_leastOf.calls f.1 f.2.1 f.2.2 tf _ (by rw [← HT.out]; rfl)).mono ?_); rintro e w4 ⟨rfl, hb4⟩; have HM4 := Aside0.mk (HM3.out.below hb4); have HF4 := Aside0.mk (HF3.out.kept HBW.out (plGrown hb4 _)); have HO4 := Aside0.mk (HO3.out.kept (plGrown hb4 _) HBW.out); clear hb4))
  go_loopg [1, 7, 8] tf.toNat (fun kq v1 v7 v8 w' => ∃ (s1 : ByteArray) (vo : Value) (o1 : List Int) (M2 : plM) (lf : Int), v1 = .string s1 ∧ v7 = vo ∧ v8 = .int .i64 lf ∧ Aside0 (kq = lf.toNat) ∧ Aside0 (lf ≤ 1000000) ∧ Aside0 (plLoop (plOf E k d) plLeast k kq s1 o1 M2 = some out) ∧ Aside0 (plF1 W B (.func (.func 67) #[] #[.pointer (some ⟨Bg, 0, none⟩)]) w') ∧ Aside0 (plMem w' B M2) ∧ Aside0 (plOut w' W.heap.size vo o1))
  case atStart => exact ⟨s, _, [], M1, tf, rfl, rfl, rfl, ⟨rfl⟩, HL, HH, HF4, HM4, HO4⟩
  case round =>
    obtain ⟨s1, vo, o1, M2, lf, rfl, e7, rfl, HK, HLL, HLO, HFR, HMM, HOO⟩ := hrel
    obtain rfl : vo = u7 := e7.symm
    cases gk with
    | zero =>
      have c0 : decide (0 < lf) = false := decide_eq_false (by have := HK.out; omega)
      have ho := HLO.out
      simp only [plLoop, Option.some.injEq] at ho
      obtain rfl := ho
      go_wp2
      go_ret
      exact ⟨_, rfl, HOO.out, HFR.out.g⟩
    | succ k1 =>
      have c0 : decide (0 < lf) = true := decide_eq_true (by have := HK.out; omega)
      have ho := HLO.out
      simp only [plLoop] at ho
      obtain ⟨ms, hms, ho⟩ := Option.bind_eq_some_iff.mp ho
      by_cases hlen : ms.length ≤ 1000 ∧ o1.length ≤ 1000000
      case neg => rw [if_neg hlen] at ho; cases ho
      rw [if_pos hlen] at ho
      obtain ⟨⟨res, M3⟩, hfd, ho⟩ := Option.bind_eq_some_iff.mp ho
      have HMS := Aside0.mk hms
      have HLEN := Aside0.mk hlen
      have HFD := Aside0.mk hfd
      have HLP := Aside0.mk ho
      clear hms hlen hfd ho
      go_wp2_with (go_at_call 62; (refine (impl_hops.calls k s1 ms _ HMS.out).mono ?_); rintro e w6 ⟨v6, rfl, hR, hb6⟩; have HF6 := Aside0.mk (HFR.out.kept HBW.out (plGrown hb6 _)); have HM6 := Aside0.mk (HMM.out.below hb6); have HO6 := Aside0.mk (HOO.out.kept (plGrown hb6 _) HBW.out); have hrow := (plRow.ofR hR).lower (b' := W.heap.size) HFR.out.g.size; obtain ⟨A6, c6, rfl⟩ := hrow.form; have HRW6 := Aside0.mk hrow; clear hrow hR hb6)
      go_loopg [1, 7, 25] ms.length (fun kq v1 v7 v25 w' => ∃ (i : Int) (M4 : plM), v1 = .string s1 ∧ v7 = vo ∧ v25 = .int .i64 i ∧ Aside0 (i = (ms.length : Int) - (kq : Int)) ∧ Aside0 (kq ≤ ms.length) ∧ Aside0 (plFind (plOf E k d) plLeast s1 k1 (ms.drop (ms.length - kq)) M4 = some (res, M3)) ∧ Aside0 (plF1 W B (.func (.func 67) #[] #[.pointer (some ⟨Bg, 0, none⟩)]) w') ∧ Aside0 (plMem w' B M4) ∧ Aside0 (plOut w' W.heap.size vo o1) ∧ Aside0 (plRow w' W.heap.size (.slice A6 ms.length c6) ms))
      case atStart => exact ⟨0, M2, rfl, rfl, rfl, ⟨by omega⟩, ⟨Nat.le_refl _⟩, ⟨by rw [Nat.sub_self]; exact HFD.out⟩, HF6, HM6, HO6, HRW6⟩
      case round =>
        obtain ⟨i, M4, rfl, e7, rfl, HI, HKi, HFi0, HFi, HMi, HOi, HRi⟩ := hrel
        obtain rfl : vo = u7 := e7.symm
        cases gk with
        | zero =>
          have c1 : decide (i < (ms.length : Int)) = false := decide_eq_false (by have := HI.out; omega)
          have hfi : plFind (plOf E k d) plLeast s1 k1 (ms.drop (ms.length - 0)) M4 = some (res, M3) := HFi0.out
          rw [Nat.sub_zero, List.drop_length] at hfi
          simp only [plFind, Option.some.injEq, Prod.mk.injEq] at hfi
          obtain ⟨rfl, rfl⟩ := hfi
          have HNX := Aside0.mk (show plLoop (plOf E k d) plLeast k k1 s1 o1 M4 = some out from HLP.out)
          have wl : wrap64 (lf - 1) = lf - 1 := by have := HLL.out; have := HK.out; unfold wrap64; omega
          have wl' : IntKind.i64.wrap (lf - 1) = lf - 1 := (i64_w _).trans wl
          go_wp2
          go_roundg k1
          case measure => omega
          case rel => exact ⟨s1, vo, o1, M4, lf - 1, rfl, rfl, rfl, ⟨by have := HK.out; omega⟩, ⟨by have := HLL.out; omega⟩, HNX, HFi, HMi, HOi⟩
        | succ j1 =>
          have c1 : decide (i < (ms.length : Int)) = true := decide_eq_true (by have := HI.out; omega)
          have hi0 : 0 ≤ i := by have := HI.out; have := HKi.out; omega
          have hi1 : i < (ms.length : Int) := by have := HI.out; omega
          have hrn := HFi0.out
          rw [plDrop ms _ (show ms.length - (j1 + 1) < ms.length by have := HKi.out; omega), show (((ms.length - (j1 + 1) : Nat) : Nat) : Int) = i by have := HI.out; have := HKi.out; omega] at hrn
          simp only [plFind] at hrn
          obtain ⟨t, ht, hrn⟩ := Option.bind_eq_some_iff.mp hrn
          obtain ⟨⟨n, M5⟩, hn, hrn⟩ := Option.bind_eq_some_iff.mp hrn
          dsimp only at hrn
          rw [show ms.length - (j1 + 1) + 1 = ms.length - j1 by have := HKi.out; omega] at hrn
          obtain ⟨m, hm⟩ : ∃ m : Int, rd ms i = m := ⟨_, rfl⟩
          rw [hm] at ht hrn
          obtain ⟨g, arr, hgb, hA, hcs, harr⟩ : ∃ (g : Nat) (arr : Array Value), W.heap.size ≤ g ∧ A6 = some ⟨g, 0, none⟩ ∧ wr.heap[g]? = some (.cells arr 3 (0, 0)) ∧ ∀ j, j < ms.length → arr[j]? = some (.int .i64 (rd ms (j : Int))) := by
            obtain ⟨A, c, hv, h⟩ := HRi.out
            rcases h with h | h
            · rw [h] at hi1; simp at hi1; omega
            · injection hv with e1 e2 e3; rw [e1]; exact h
          subst hA
          have hcell : wr.cell? ⟨g, i.toNat, none⟩ = some (.int .i64 m) := by
            rw [blk_cell hcs, harr i.toNat (by omega), show ((i.toNat : Nat) : Int) = i by omega, hm]
          have HT2 := HT
          clear HT
          have HT := Aside0.mk ht
          have HN := Aside0.mk hn
          have HRN2 := Aside0.mk hrn
          have HIB := Aside0.mk (show 0 ≤ i ∧ i < (ms.length : Int) from ⟨hi0, hi1⟩)
          clear ht hn hrn hm hcs harr hgb
          go_wp2
          refine region_inv (J := fun L a Wc => ∃ v33 v34 v35 v36 v37 v10 : Value, a = { tmps := #[Value.agg #[Value.func (Fn.func 67) #[] #[.pointer (some ⟨Bg, 0, none⟩)], Value.map (some B)], Value.string s1, Value.func (Fn.func 55) #[] #[], Value.pointer (some { block := W.heap.size, off := 0 }), undef, undef, Value.slice none 0 0, vo, Value.int IntKind.i64 lf, undef, Value.int IntKind.i64 m, v10, Value.slice (some { block := W.heap.size + 1, off := 0 }) 0 0, Value.func (Fn.func 55) #[] #[], Value.agg #[Value.func (Fn.func 67) #[] #[.pointer (some ⟨Bg, 0, none⟩)], Value.map (some B)], Value.string s, plV f, Value.int IntKind.i64 tf, Value.int IntKind.i64 lf, Value.bool true, u20, u21, Value.string s1, Value.slice (some { block := g, off := 0 }) ms.length c6, Value.int IntKind.i64 (ms.length : Int), Value.int IntKind.i64 i, Value.bool true, Value.pointer (some { block := g, off := i.toNat }), Value.int IntKind.i64 m, v33, v34, v35, v36, v37, u34, u35, u36, u37, u38, u39, u40, u41, u42, u43, u44, u45, u46, u47, u48, u49, u50, u51, u52, undef], defers := [] } ∧ plRS wr B (.func (.func 67) #[] #[.pointer (some ⟨Bg, 0, none⟩)]) s1 t m n M4 M5 L v33 v34 v35 v36 v37 v10 Wc) (by kernel_rfl) (by kernel_rfl) ?start8 ?step8 ?fin8
          case start8 => exact ⟨_, _, _, _, _, _, rfl, ⟨plGrown (below_drew1 (Below.refl _ _)) _, by simpa using HMi.out.below (below_drew1 (Below.refl _ _)), nofun, nofun, nofun, nofun, nofun, nofun, nofun⟩⟩
          case step8 =>
            rintro L a Wc j o ho hL hp ⟨v33, v34, v35, v36, v37, v10, rfl, H⟩
            have hj : j < 7 := (Array.getElem?_eq_some_iff.1 ho).1
            rcases (show j = 0 ∨ j = 1 ∨ j = 2 ∨ j = 3 ∨ j = 4 ∨ j = 5 ∨ j = 6 by omega) with rfl | rfl | rfl | rfl | rfl | rfl | rfl
            all_goals (obtain rfl : _ = o := Option.some.inj (show some _ = some o from ho); simp [Region.binds] at hp; refine plOp_of rfl (fun K hK => ?_))
            · -- operation 0
              obtain ⟨p0, p1⟩ := (show Wc.cell? ⟨W.heap.size, 0, none⟩ = some (.func (.func 67) #[] #[.pointer (some ⟨Bg, 0, none⟩)]) ∧ Wc.cell? ⟨W.heap.size, 1, none⟩ = some (.map (some B)) from ⟨by rw [blk_cell (HFi.out.kept HBW.out H.g).p]; rfl, by rw [blk_cell (HFi.out.kept HBW.out H.g).p]; rfl⟩)
              go_simp
              refine Or.inl ?_
              have H1 := H
              refine hK _ _ ⟨_, v34, v35, v36, v37, v10, rfl, ⟨?_, ?_, ?_, ?_, ?_, ?_, ?_, ?_, ?_⟩⟩
              · exact H1.g
              · exact by simpa using H1.mem
              · exact fun _ => rfl
              · exact fun hl => H1.h1 (by simpa using hl)
              · exact fun hl => H1.h2 (by simpa using hl)
              · exact fun hl => H1.h3 (by simpa using hl)
              · exact fun hl => H1.h4 (by simpa using hl)
              · exact fun hl => by obtain ⟨b, q, e, x1, x2, x3⟩ := H1.h5 (by simpa using hl); exact ⟨b, q, e, x1, x2, fun h6 => x3 (by simpa using h6)⟩
              · exact fun hl => by have := H1.o6 (by simpa using hl); simp [this]
            · -- operation 1
              go_simp
              refine Or.inl ?_
              have H1 := H
              refine hK _ _ ⟨v33, _, v35, v36, v37, v10, rfl, ⟨?_, ?_, ?_, ?_, ?_, ?_, ?_, ?_, ?_⟩⟩
              · exact H1.g
              · exact by simpa using H1.mem
              · exact fun hl => H1.h0 (by simpa using hl)
              · exact fun _ => rfl
              · exact fun hl => H1.h2 (by simpa using hl)
              · exact fun hl => H1.h3 (by simpa using hl)
              · exact fun hl => H1.h4 (by simpa using hl)
              · exact fun hl => by obtain ⟨b, q, e, x1, x2, x3⟩ := H1.h5 (by simpa using hl); exact ⟨b, q, e, x1, x2, fun h6 => x3 (by simpa using h6)⟩
              · exact fun hl => by have := H1.o6 (by simpa using hl); simp [this]
            · -- operation 2
              go_simp
              refine Or.inl ?_
              have H1 := H
              refine hK _ _ ⟨v33, v34, _, v36, v37, v10, rfl, ⟨?_, ?_, ?_, ?_, ?_, ?_, ?_, ?_, ?_⟩⟩
              · exact H1.g
              · exact by simpa using H1.mem
              · exact fun hl => H1.h0 (by simpa using hl)
              · exact fun hl => H1.h1 (by simpa using hl)
              · exact fun _ => rfl
              · exact fun hl => H1.h3 (by simpa using hl)
              · exact fun hl => H1.h4 (by simpa using hl)
              · exact fun hl => by obtain ⟨b, q, e, x1, x2, x3⟩ := H1.h5 (by simpa using hl); exact ⟨b, q, e, x1, x2, fun h6 => x3 (by simpa using h6)⟩
              · exact fun hl => by have := H1.o6 (by simpa using hl); simp [this]
            · -- operation 3
              have y1 : L 1 = true := by simp [hp]
              have y2 : L 2 = true := by simp [hp]
              obtain rfl := H.h1 y1
              obtain rfl := H.h2 y2
              go_simp
              refine Or.inl ?_
              refine (impl_hopped.calls s1 m t _ HT.out).mono ?_
              rintro e w' ⟨rfl, hbw⟩
              have H1 := H.below hbw
              refine hK _ _ ⟨v33, _, _, _, v37, v10, rfl, ⟨?_, ?_, ?_, ?_, ?_, ?_, ?_, ?_, ?_⟩⟩
              · exact H1.g
              · exact by simpa using H1.mem
              · exact fun hl => H1.h0 (by simpa using hl)
              · exact fun hl => H1.h1 (by simpa using hl)
              · exact fun hl => H1.h2 (by simpa using hl)
              · exact fun _ => rfl
              · exact fun hl => H1.h4 (by simpa using hl)
              · exact fun hl => by obtain ⟨b, q, e, x1, x2, x3⟩ := H1.h5 (by simpa using hl); exact ⟨b, q, e, x1, x2, fun h6 => x3 (by simpa using h6)⟩
              · exact fun hl => by have := H1.o6 (by simpa using hl); simp [this]
            · -- operation 4
              have y0 : L 0 = true := by simp [hp]
              have y3 : L 3 = true := by simp [hp]
              obtain rfl := H.h0 y0
              obtain rfl := H.h3 y3
              have hm := H.mem
              rw [if_neg (by simp [hL])] at hm
              go_simp
              refine Or.inl ?_
              refine (plOf_walkG Bg E Env hE k B d M4 M5 t n Wc HN.out hm (hE.kept _ _ B M HEnv.out HM.out (HFi.out.g.trans H.g))).mono ?_
              rintro e w' ⟨rfl, hm3, hg3⟩
              have H1 := H
              refine hK _ _ ⟨_, v34, v35, _, _, v10, rfl, ⟨?_, ?_, ?_, ?_, ?_, ?_, ?_, ?_, ?_⟩⟩
              · exact H1.g.trans hg3
              · exact by simpa using hm3
              · exact fun hl => H1.h0 (by simpa using hl)
              · exact fun hl => H1.h1 (by simpa using hl)
              · exact fun hl => H1.h2 (by simpa using hl)
              · exact fun hl => H1.h3 (by simpa using hl)
              · exact fun _ => rfl
              · exact fun hl => by obtain ⟨b, q, e, x1, x2, x3⟩ := H1.h5 (by simpa using hl); exact ⟨b, q, e, x1, blk_grown x2 hg3 (by intro e; injection e with e; have := HBW.out; have := HFi.out.g.size; omega), fun h6 => x3 (by simpa using h6)⟩
              · exact fun hl => by have := H1.o6 (by simpa using hl); simp [this]
            · -- operation 5
              go_simp
              refine Or.inl ?_
              have H1 := H.below (below_alloc (Below.refl _ _) (Obj.cells #[.int .i64 0, .int .i64 0, .int .i64 0] 55))
              refine hK _ _ ⟨v33, v34, v35, v36, v37, _, rfl, ⟨?_, ?_, ?_, ?_, ?_, ?_, ?_, ?_, ?_⟩⟩
              · exact H1.g
              · exact by simpa using H1.mem
              · exact fun hl => H1.h0 (by simpa using hl)
              · exact fun hl => H1.h1 (by simpa using hl)
              · exact fun hl => H1.h2 (by simpa using hl)
              · exact fun hl => H1.h3 (by simpa using hl)
              · exact fun hl => H1.h4 (by simpa using hl)
              · exact fun _ => ⟨Wc.heap.size, (0, 0, 0), rfl, H.g.size, blk_new Wc _, fun h6 => absurd (H.o6 (by simpa using h6)).2 (by simp [hL])⟩
              · exact fun hl => by have := H1.o6 (by simpa using hl); simp [this]
            · -- operation 6
              have y4 : L 4 = true := by simp [hp]
              have y5 : L 5 = true := by simp [hp]
              obtain rfl := H.h4 y4
              obtain ⟨b, q, rfl, x1, x2, x3⟩ := H.h5 y5
              have d0 : Wc.cell? ⟨b, 0, none⟩ = some (.int .i64 q.1) := by rw [blk_cell x2]; rfl
              have d1 : Wc.cell? ⟨b, 1, none⟩ = some (.int .i64 q.2.1) := by rw [blk_cell x2]; rfl
              have d2 : Wc.cell? ⟨b, 2, none⟩ = some (.int .i64 q.2.2) := by rw [blk_cell x2]; rfl
              have g0 := blk_frozen x2 0
              have g1 := blk_frozen x2 1
              have g2 := blk_frozen x2 2
              have hBb : B ≠ b := by have := HBW.out; have := HFi.out.g.size; omega
              go_simp
              refine Or.inl ?_
              have H1 := H
              refine hK _ _ ⟨v33, v34, v35, v36, _, _, rfl, ⟨?_, ?_, ?_, ?_, ?_, ?_, ?_, ?_, ?_⟩⟩
              · exact plSet (plSet (plSet H1.g x1 _) x1 _) x1 _
              · exact by have := H1.mem; simpa using ((this.set hBb _).set hBb _).set hBb _
              · exact fun hl => H1.h0 (by simpa using hl)
              · exact fun hl => H1.h1 (by simpa using hl)
              · exact fun hl => H1.h2 (by simpa using hl)
              · exact fun hl => H1.h3 (by simpa using hl)
              · exact fun _ => rfl
              · exact fun _ => ⟨b, n, rfl, x1, blk_put (blk_put (blk_put x2 0 _ rfl) 1 _ rfl) 2 _ rfl, fun _ => rfl⟩
              · exact fun _ => by simp [hp]
          case fin8 =>
            rintro L a Wc hall ⟨v33, v34, v35, v36, v37, v10, rfl, H⟩
            obtain ⟨b, q, rfl, x1, x2, x3⟩ := H.h5 (hall 5 (by decide))
            obtain rfl := x3 (hall 6 (by decide))
            obtain rfl := H.h4 (hall 4 (by decide))
            have hm3 := H.mem
            rw [if_pos (hall 4 (by decide))] at hm3
            have hg3 := H.g
            clear H hall x3
            obtain ⟨n1, n2, n3⟩ := q
            have HFc := Aside0.mk (HFi.out.kept HBW.out hg3)
            have HMc := Aside0.mk hm3
            have HOc := Aside0.mk (HOi.out.kept hg3 HBW.out)
            have HRc := Aside0.mk (HRi.out.kept hg3 HBW.out)
            have d0 : Wc.cell? ⟨b, 0, none⟩ = some (.int .i64 n1) := by rw [blk_cell x2]; rfl
            have d1 : Wc.cell? ⟨b, 1, none⟩ = some (.int .i64 n2) := by rw [blk_cell x2]; rfl
            have d2 : Wc.cell? ⟨b, 2, none⟩ = some (.int .i64 n3) := by rw [blk_cell x2]; rfl
            have wi : wrap64 (i + 1) = i + 1 := by have := HIB.out; have := HLEN.out.1; unfold wrap64; omega
            have wi' : IntKind.i64.wrap (i + 1) = i + 1 := (i64_w _).trans wi
            have wl : wrap64 (lf - 1) = lf - 1 := by have := HLL.out; have := HK.out; unfold wrap64; omega
            have wl' : IntKind.i64.wrap (lf - 1) = lf - 1 := (i64_w _).trans wl
            have hrn2 := HRN2.out
            dsimp only at hrn2
            clear x1 x2 hg3 hm3
            by_cases hz : 0 < n3
            · have z1 : decide (0 < n3) = true := decide_eq_true hz
              obtain ⟨tn, htn⟩ : ∃ tn : Int, plLeast (n1, n2, n3) = tn := ⟨_, rfl⟩
              rw [htn] at hrn2
              have HTN := Aside0.mk htn
              clear htn
              by_cases he : tn = (k1 : Int)
              · rw [if_pos ⟨hz, he⟩] at hrn2
                simp only [Option.some.injEq, Prod.mk.injEq] at hrn2
                obtain ⟨rfl, rfl⟩ := hrn2
                have z2 : (tn == lf - 1) = true := beq_iff_eq.2 (by have := HK.out; omega)
                have HNX := Aside0.mk (show plLoop (plOf E k d) plLeast k k1 t (o1 ++ [m]) M5 = some out from HLP.out)
                obtain ⟨ii, hii, hij⟩ := Option.map_eq_some_iff.1 info3
                simp only [Prod.mk.injEq] at hij
                have HII := Aside0.mk hii
                have HIJ := Aside0.mk hij
                clear hz he hii hij
                go_wp2_with (first | (go_at_call 55; (refine (impl_leastOf.calls n1 n2 n3 tn _ (by rw [← HTN.out]; rfl)).mono ?_); rintro e w8 ⟨rfl, hb8⟩; have HF8 := Aside0.mk (HFc.out.kept HBW.out (plGrown (below_alloc hb8 (.cells #[.int .i64 m] 3)) _)); have HM8 := Aside0.mk (HMc.out.below (below_alloc hb8 (.cells #[.int .i64 m] 3))); have HO8 := Aside0.mk (HOc.out.kept (plGrown (below_alloc hb8 (.cells #[.int .i64 m] 3)) (some B)) HBW.out); have HNW := Aside0.mk (plNews w8 m); have HON := Aside0.mk (plOne m); have HBD := Aside0.mk (show o1.length + 1 ≤ maxLen ∧ (o1.length + 1) * 8 ≤ 140737488355328 from by have := HLEN.out.2; unfold maxLen; omega); clear hb8) | (at_builtin; refine wpList_append_own _ rfl (.tmp 45) (.tmp 47) 34 rfl W.heap.size 3 ii (.int .i64 0) 1 8 ?a1 ?a2 ?a3 ?a4 ?a5 ?a6 ?a7 vo o1.length (o1.map (Value.int .i64)) ?a8 ?a9 ⟨w8.heap.size, 0, none⟩ 1 1 [.int .i64 m] ?b1 ?b2 ?b3 ?b4 ?b5 ?b6 ?b7 ?b8; (case a1 => exact Tryd.underlying34); (case a2 => exact HII.out); (case a3 => exact HIJ.out.1); (case a4 => exact HIJ.out.2.1); (case a5 => exact HIJ.out.2.2); (case a6 => rfl); (case a7 => decide); (case a8 => rfl); (case a9 => exact HO8.out); (case b1 => rfl); (case b2 => rfl); (case b3 => exact HNW.out); (case b4 => exact HON.out); (case b5 => exact HBD.out.1); (case b6 => exact HBD.out.2); (case b7 => exact HF8.out.g.size); intro v9 w9 hown9 hg9 _; have HF9 := Aside0.mk (plF1.row HF8.out HO8.out hg9); have HM9 := Aside0.mk (plMem.row HM8.out HO8.out hg9); have HO9 := Aside0.mk (plOut.snoc hown9); clear hown9 hg9) | (go_at_call 63; (refine (impl_hopped.calls s1 m t _ HT.out).mono ?_); rintro e w10 ⟨rfl, hb10⟩; have HFz := Aside0.mk (HF9.out.kept HBW.out (plGrown hb10 _)); have HMz := Aside0.mk (HM9.out.below hb10); have HOz := Aside0.mk (HO9.out.kept (plGrown hb10 (some B)) HBW.out); clear hb10))
                go_roundg k1
                case measure => omega
                case rel => exact ⟨t, _, o1 ++ [m], M5, lf - 1, rfl, rfl, rfl, ⟨by have := HK.out; omega⟩, ⟨by have := HLL.out; omega⟩, HNX, HFz, HMz, HOz⟩
              · rw [if_neg (fun h => he h.2)] at hrn2
                have z2 : (tn == lf - 1) = false := beq_eq_false_iff_ne.2 (fun h => he (by have := HK.out; omega))
                have HNX := Aside0.mk hrn2
                clear hz he hrn2
                go_wp2_with (first | (go_at_call 55; (refine (impl_leastOf.calls n1 n2 n3 tn _ (by rw [← HTN.out]; rfl)).mono ?_); rintro e w8 ⟨rfl, hb8⟩; have HF8 := Aside0.mk (HFc.out.kept HBW.out (plGrown hb8 _)); have HM8 := Aside0.mk (HMc.out.below hb8); have HO8 := Aside0.mk (HOc.out.kept (plGrown hb8 (some B)) HBW.out); have HR8 := Aside0.mk (HRc.out.kept (plGrown hb8 (some B)) HBW.out); clear hb8))
                go_roundg j1
                case measure => omega
                case rel => exact ⟨i + 1, M5, rfl, rfl, rfl, ⟨by have := HI.out; omega⟩, ⟨by have := HKi.out; omega⟩, HNX, HF8, HM8, HO8, HR8⟩
            · have z1 : decide (0 < n3) = false := decide_eq_false hz
              rw [if_neg (fun h => hz h.1)] at hrn2
              have HNX := Aside0.mk hrn2
              clear hz hrn2
              go_wp2
              go_roundg j1
              case measure => omega
              case rel => exact ⟨i + 1, M5, rfl, rfl, rfl, ⟨by have := HI.out; omega⟩, ⟨by have := HKi.out; omega⟩, HNX, HFc, HMc, HOc, HRc⟩
def impl_FirstFrogMoves.f (k : Nat) (a0 a1 : ByteArray) : Option (List Int × Bool) := (plGo k k a0 a1).bind fun r => if r.1 = true then (plFst (plIs a1) plLeast k k r.2 a0).bind fun l => some (l, true) else some ([], false)
theorem impl_FirstFrogMoves.mono : ∀ a0 a1 k, LeO (impl_FirstFrogMoves.f k a0 a1) (impl_FirstFrogMoves.f (k + 1) a0 a1) := fun a0 a1 k =>
  LeO.bind (plGo_le k k a0 a1) (fun r => LeO.ite (LeO.bind (plFst_le plLeast k k (fun _ => LeO.refl _) r.2 a0) (fun _ => LeO.refl _)) (LeO.refl _))
set_option maxHeartbeats 8000000 in
set_option maxRecDepth 100000 in
theorem impl_FirstFrogMoves.calls (k : Nat) (a0 a1 : ByteArray) (r1 : List Int) (r2 : Bool) (w : World) (h : impl_FirstFrogMoves.f k a0 a1 = some (r1, r2)) :
    Calls Tryd.prog 32 #[.string a0, .string a1] w fun e w' => ∃ v0_ : Value, e = .returned (.tuple #[v0_, .bool r2]) ∧ Kd.R (Kd.int .i64) 3 w' w.heap.size (fun _ => True) v0_ r1 ∧ Below w.heap.size w w' := by
  obtain ⟨⟨ok, M⟩, hg, h⟩ := Option.bind_eq_some_iff.mp h
  have HG := Aside0.mk hg
  clear hg
  cases ok with
  | false =>
    simp only [Bool.false_eq_true, if_false, Option.some.injEq, Prod.mk.injEq] at h
    obtain ⟨rfl, rfl⟩ := h
    go_enter Tryd.func32, Tryd.ntmps32
    go_wp2_with (go_at_call 45; (refine (plGo_walk k k a0 a1 false M _ HG.out).mono ?_); rintro e w3 ⟨B, rfl, hB, hbx, hm, hb⟩; have HBL := Aside0.mk hb; clear hB hbx hm hb)
    go_ret2
    exact ⟨_, rfl, Kd.R_nil _ _ _ _ _, below_alloc HBL.out _⟩
  | true =>
    rw [if_pos rfl] at h
    obtain ⟨l, hq, h⟩ := Option.bind_eq_some_iff.mp h
    simp only [Option.some.injEq, Prod.mk.injEq] at h
    obtain ⟨rfl, rfl⟩ := h
    have HQ := Aside0.mk hq
    clear hq
    go_enter Tryd.func32, Tryd.ntmps32
    go_wp2_with (first | (go_at_call 45; (refine (plGo_walk k k a0 a1 true M _ HG.out).mono ?_); rintro e w3 ⟨B, rfl, hB, hbx, hm, hb⟩; have HB := Aside0.mk hB; have hal := below_alloc (Below.refl w3.heap.size w3) (.cells #[(.func (.func 67) #[] #[.pointer (some ⟨w.heap.size, 0, none⟩)]), .map (some B)] 51); have HBX := Aside0.mk (show plBox (w3.alloc (.cells #[(.func (.func 67) #[] #[.pointer (some ⟨w.heap.size, 0, none⟩)]), .map (some B)] 51)) w.heap.size a1 from (hal.block _ (blk_lt hbx)).trans hbx); have HM := Aside0.mk (hm.below hal); have HBL := Aside0.mk (below_step hb hal); clear hB hbx hm hb hal) | (go_at_call 52; (refine (plFst_walkGL w.heap.size (plIs a1) _ (plGoal w.heap.size a1) k B k M a0 l _ HQ.out HM.out HBX.out).mono ?_); rintro e w4 ⟨v4, rfl, ho4, hg4⟩; have HBZ := Aside0.mk (HBL.out.grown hg4 HBL.out.size (fun j hj => by injection hj with hj; have := HB.out; omega)); have HO4 := Aside0.mk (plOut.toR ho4 HBL.out.size); clear ho4 hg4))
    go_ret2
    exact ⟨_, rfl, HO4.out, HBZ.out⟩

end Go.Proofs.YtkikpfeipejnlaaDoor.PFnExactFirstFrogMoves
