-- Printed by this session's eprint.py over the kit's print (with this session's own texts for some functions)
import Derived.Test.YtkikpfeipejnlaaDoorPFnExactShortestStuckx0
import Derived.Test.YtkikpfeipejnlaaDoorPFnExactShortestStuckx1
import Derived.Test.YtkikpfeipejnlaaDoorPFnExactShortestStuckx3
import Derived.Test.YtkikpfeipejnlaaDoorPFnExactShortestStuckx4
namespace Go.Proofs.YtkikpfeipejnlaaDoor.PFnExactShortestStuck
open Go.RowKit Go.Proofs.YtkikpfeipejnlaaDoorW.PrintWords Go.Proofs.YtkikpfeipejnlaaDoorW.PrintLast Go.Proofs.YtkikpfeipejnlaaDoorW.PrintMore
attribute [local go_sem] max2_int min2_int max_two min_two max_three min_three max_four min_four   -- for this text's walks alone
set_option linter.unusedVariables false
set_option linter.unusedSimpArgs false

/-! ### impl_leastOf: function 55 -/
def impl_leastOf.f (a0_0 : Int) (a0_1 : Int) (a0_2 : Int) : Option (Int) := some a0_0
set_option maxHeartbeats 8000000 in
set_option maxRecDepth 100000 in
theorem impl_leastOf.calls (a0_0 : Int) (a0_1 : Int) (a0_2 : Int) (r : Int) (w : World) (h : impl_leastOf.f a0_0 a0_1 a0_2 = some r) :
    Calls Tryd.prog 55 #[.agg #[.int .i64 a0_0, .int .i64 a0_1, .int .i64 a0_2]] w fun e w' => e = .returned (.int .i64 r) ∧ Below w.heap.size w w' := by
  have hu55 := Tryd.underlying55
  have HB := Aside0.mk (Below.refl w.heap.size w)
  have H : (some a0_0) = some r := h
  clear h
  obtain rfl := Option.some.inj H
  go_enter Tryd.func55, Tryd.ntmps55
  go_wp2_with (first | ((with_reducible refine gate_dst (N := 1) rfl ?_); refine box_event ?hg (N := 1) ?hd (cs := #[.int .i64 a0_0, .int .i64 a0_1, .int .i64 a0_2]) (t := 55) ?hr ?_; (case hd => rfl); (case hg => rfl); (case hr => first | (go_simp; done) | (go_simp; rfl)); intro gb142 hg w2 hbox hb; have n0_ := Aside0.mk (below_step (by repeat (first | (with_reducible first | exact HB.out | apply below_alloc | apply pw_below_drewN | apply below_drew1) | exact HB.out)) hb); have n1_ := Aside0.mk (hbox); have n2_ := Aside0.mk ((by rw [hg]; exact (below_size (by repeat (first | (with_reducible first | exact HB.out | apply below_alloc | apply pw_below_drewN | apply below_drew1) | exact HB.out))) : w.heap.size ≤ gb142)); have n3_ := Aside0.mk ((by rw [hg]; exact (below_size (by repeat (first | (with_reducible first | exact HB.out | apply below_alloc | apply pw_below_drewN | apply below_drew1) | exact HB.out))) : w.heap.size ≤ gb142)); clear HB; have HB := n0_; have BK142 := n1_; have GW142 := n2_; have GE142 := n3_; clear n0_ n1_ n2_ n3_; clear hb hbox hg; have hcz3_0 : w2.cell? ⟨gb142, 0, none⟩ = some (.int .i64 a0_0) := (blk_cell BK142.out 0).trans rfl; have hcz3_1 : w2.cell? ⟨gb142, 1, none⟩ = some (.int .i64 a0_1) := (blk_cell BK142.out 1).trans rfl; have hcz3_2 : w2.cell? ⟨gb142, 2, none⟩ = some (.int .i64 a0_2) := (blk_cell BK142.out 2).trans rfl; have hfz3_0 := blk_frozen BK142.out 0; have hfz3_1 := blk_frozen BK142.out 1; have hfz3_2 := blk_frozen BK142.out 2))
  go_ret
  exact ⟨by first | rfl | (simp [errW_none, errW_some] <;> rfl) | (simp [*, errW_none, errW_some] <;> rfl), by repeat (first | (with_reducible first | exact HB.out | apply below_alloc | apply pw_below_drewN | apply below_drew1 | refine below_set ?_ GE142.out) | exact HB.out)⟩

/-! ### impl_ShortestStuck: function 30 -/
def plMost (f : plF) : Int := f.2.1
def plLeast (f : plF) : Int := f.1
/-- The first move behind which so many moves are left, and the pond behind it. -/
def plFind (g : plM → ByteArray → Option (plF × plM)) (told : plF → Int) (s : ByteArray) (left : Nat) : List Int → plM → Option (Option (Int × ByteArray) × plM)
  | [], M => some (none, M)
  | m :: ms, M => (impl_hopped.f s m).bind fun t => (g M t).bind fun n => if 0 < n.1.2.2 ∧ told n.1 = (left : Int) then some (some (m, t), n.2) else plFind g told s left ms n.2
def plLoop (g : plM → ByteArray → Option (plF × plM)) (told : plF → Int) (k : Nat) : Nat → ByteArray → List Int → plM → Option (List Int)
  | 0, _, out, _ => some out
  | left + 1, s, out, M => (impl_hops.f k s).bind fun ms => if ms.length ≤ 1000 ∧ out.length ≤ 1000000 then (plFind g told s left ms M).bind fun r => match r.1 with
    | some mt => plLoop g told k left mt.2 (out ++ [mt.1]) r.2
    | none => plLoop g told k left s out r.2 else none
/-- What the method 'first' answers. -/
def plFst (E : ByteArray → Option Bool) (told : plF → Int) (k d : Nat) (M : plM) (s : ByteArray) : Option (List Int) := (plOf E k d M s).bind fun f => if told f.1 ≤ 1000000 then plLoop (plOf E k d) told k (told f.1).toNat s [] f.2 else none
def plOut (W : World) (base : Nat) (v : Value) (xs : List Int) : Prop := W.ownsRow base 3 1 v xs.length (xs.map (Value.int .i64))
theorem plOut.form {b0 : Nat} {W : World} {v : Value} {l : List Int} (h : plOut W b0 v l) : (l = [] ∧ v = .slice none 0 0) ∨ ∃ g c cur, v = .slice (some ⟨g, 0, none⟩) l.length c ∧ b0 ≤ g ∧ W.heap[g]? = some (.cells cur 3 (0, 0)) := by
  rcases h.2 with ⟨h1, h2⟩ | ⟨g, c, cur, h1, h2, h3, _⟩
  · exact .inl ⟨List.length_eq_zero_iff.1 h2, h1⟩
  · exact .inr ⟨g, c, cur, h1, h2, h3⟩
theorem plOut.kept {W W' : World} {b B : Nat} {v : Value} {xs : List Int} (h : plOut W b v xs) (hg : W.grownBy W' (some B)) (hB : B < b) : plOut W' b v xs := by
  refine World.ownsRow.kept h hg ?_
  rcases plOut.form h with ⟨_, e⟩ | ⟨g, c, cur, e, hb, _⟩
  · subst e; exact .inl rfl
  · subst e; exact .inr (by intro e; simp only [Value.ownBlock, Option.some.injEq] at e; omega)
theorem plOut.nil {W : World} {base b : Nat} (hb : base ≤ b) (hc : W.heap[b]? = some (.cells #[] 3 (0, 0))) : plOut W base (.slice (some ⟨b, 0, none⟩) 0 0) [] :=
  ⟨rfl, .inr ⟨b, 0, #[], rfl, hb, hc, Nat.le_refl _, by decide, rfl, rfl⟩⟩
/-- The blocks of a call of 'first'. -/
structure plF1 (W : World) (B : Nat) (fv : Value) (W' : World) : Prop where
  g : W.grownBy W' (some B)
  p : W'.heap[W.heap.size]? = some (.cells #[fv, .map (some B)] 51 (0, 0))
theorem plF1.kept {W W1 W2 : World} {B : Nat} {fv : Value} (h : plF1 W B fv W1) (hB : B < W.heap.size) (hg : W1.grownBy W2 (some B)) : plF1 W B fv W2 :=
  ⟨h.g.trans hg, blk_grown h.p hg (by intro e; injection e with e; omega)⟩
theorem plGr {W W1 W2 : World} {B : Nat} {row : Option Nat} (h : W.grownBy W1 (some B)) (hg : W1.grownBy W2 row) (hr : ∀ k, row = some k → W.heap.size ≤ k) : W.grownBy W2 (some B) :=
  ⟨hg.os.trans h.os, hg.tape.trans h.tape, hg.output.trans h.output, Nat.le_trans h.size hg.size, fun k hk hne => (hg.block k (Nat.lt_of_lt_of_le hk h.size) (fun e => by have := hr k e.symm; omega)).trans (h.block k hk hne)⟩
theorem plF1.row {W W1 W2 : World} {B : Nat} {fv v : Value} {xs : List Int} (h : plF1 W B fv W1) (ho : plOut W1 W.heap.size v xs) (hg : W1.grownBy W2 v.ownBlock) : plF1 W B fv W2 := by
  have hk : ∀ k, v.ownBlock = some k → W.heap.size ≤ k ∧ k ≠ W.heap.size := by
    intro k hk
    rcases plOut.form ho with ⟨_, e⟩ | ⟨g, c, cur, e, hb, hc⟩
    · subst e; simp [Value.ownBlock] at hk
    · subst e
      simp only [Value.ownBlock, Option.some.injEq] at hk
      subst hk
      exact ⟨hb, fun e => by subst e; have := blk_ne hc h.p (by decide); exact this rfl⟩
  exact ⟨plGr h.g hg (fun k e => (hk k e).1), blk_grown h.p hg (fun e => (hk _ e.symm).2 rfl)⟩
theorem plMem.row {W1 W2 : World} {B b : Nat} {M : plM} {v : Value} {xs : List Int} (h : plMem W1 B M) (ho : plOut W1 b v xs) (hg : W1.grownBy W2 v.ownBlock) : plMem W2 B M := by
  refine h.kept hg ?_
  rcases plOut.form ho with ⟨_, e⟩ | ⟨g, c, cur, e, hb, hc⟩
  · subst e; simp [Value.ownBlock]
  · subst e
    simp only [Value.ownBlock, ne_eq, Option.some.injEq]
    exact h.ne hc
theorem plNews (w : World) (m : Int) : ∀ (j : Nat) (u : Value), [Value.int .i64 m][j]? = some u → (w.alloc (.cells #[.int .i64 m] 3)).cell? ((⟨w.heap.size, 0, none⟩ : Addr).add j) = some u := by
  intro j u hj
  match j, hj with
  | 0, hj =>
    obtain rfl := Option.some.inj (show some _ = some u from hj)
    exact (blk_cell (blk_new w (.cells #[.int .i64 m] 3)) 0)
theorem plOne (m : Int) : ∀ u ∈ [Value.int .i64 m], u.oneCell' = true := by
  intro u hu
  simp only [List.mem_singleton] at hu
  subst hu; rfl
theorem plOut.snoc {w : World} {base : Nat} {v : Value} {xs : List Int} {m : Int} (h : w.ownsRow base 3 1 v (xs.length + 1) (xs.map (Value.int .i64) ++ [.int .i64 m])) : plOut w base v (xs ++ [m]) := by
  unfold plOut
  rw [List.length_append, List.map_append]
  exact h
theorem plOut.toR {W : World} {b b' : Nat} {v : Value} {xs : List Int} (h : plOut W b v xs) (hb : b' ≤ b) : Kd.R (Kd.int .i64) 3 W b' (fun _ => True) v xs := by
  refine Kd.R_of_own ⟨h.1, ?_⟩ (fun _ _ => trivial)
  rcases h.2 with h | ⟨g, cap, cur, h1, h2, h3⟩
  · exact .inl h
  · exact .inr ⟨g, cap, cur, h1, Nat.le_trans hb h2, h3⟩
theorem plFind_le {g g' : plM → ByteArray → Option (plF × plM)} (h : ∀ M t, LeO (g M t) (g' M t)) (told : plF → Int) (s : ByteArray) (left : Nat) : ∀ (ms : List Int) (M : plM), LeO (plFind g told s left ms M) (plFind g' told s left ms M)
  | [], _ => LeO.refl _
  | _ :: ms, _ => LeO.bind (LeO.refl _) (fun _ => LeO.bind (h _ _) (fun _ => LeO.ite (LeO.refl _) (plFind_le h told s left ms _)))
theorem plLoop_le {g g' : plM → ByteArray → Option (plF × plM)} (h : ∀ M t, LeO (g M t) (g' M t)) (told : plF → Int) (k : Nat) : ∀ (left : Nat) (s : ByteArray) (out : List Int) (M : plM), LeO (plLoop g told k left s out M) (plLoop g' told (k + 1) left s out M)
  | 0, _, _, _ => LeO.refl _
  | left + 1, s, out, M => by
    simp only [plLoop]
    refine LeO.bind (impl_hops.mono s k) (fun _ => LeO.ite (LeO.bind (plFind_le h told s left _ _) (fun r => ?_)) (LeO.refl _))
    obtain ⟨r1, r2⟩ := r
    cases r1 with
    | none => exact plLoop_le h told k left _ _ _
    | some mt => exact plLoop_le h told k left _ _ _
theorem plFst_le {E E' : ByteArray → Option Bool} (told : plF → Int) (k d : Nat) (hE : ∀ s, LeO (E s) (E' s)) (M : plM) (s : ByteArray) : LeO (plFst E told k d M s) (plFst E' told (k + 1) (d + 1) M s) :=
  LeO.bind (plOf_le k hE d M s) (fun _ => LeO.ite (plLoop_le (fun M t => plOf_le k hE d M t) told k _ _ _ _) (LeO.refl _))
theorem plStuck (k : Nat) : plEnd (impl_isStuck.f k) 40 #[] (fun _ => True) :=
  ⟨fun W s b _ h => impl_isStuck.calls k s b W h, fun _ _ _ _ _ _ _ => trivial⟩
set_option maxHeartbeats 8000000 in
theorem plTo_walk (F : Nat) (caps : Array Value) (W : World) :
    Calls Tryd.prog 51 #[.func (.func F) #[] caps] W fun e W' => ∃ B, e = .returned (.agg #[.func (.func F) #[] caps, .map (some B)]) ∧ W.heap.size ≤ B ∧ plMem W' B [] ∧ Below W.heap.size W W' := by
  have hmm := @run_makeMap Tryd.prog
  go_enter Tryd.func51, Tryd.ntmps51
  go_wp2
  have hm := World.ownsMap_made (H := Unit) (W.alloc (.cells #[.func (.func F) #[] caps, .map (some (W.heap.size + 1))] 51)) Tryd.prog 9 plR
  rw [show (W.alloc (.cells #[.func (.func F) #[] caps, .map (some (W.heap.size + 1))] 51)).heap.size = W.heap.size + 1 from by simp] at hm
  exact bodyPost_ret (v := .agg #[.func (.func F) #[] caps, .map (some (W.heap.size + 1))]) (by simp [results, Tryd.results51, go_sem]) rfl ⟨W.heap.size + 1, rfl, by omega, hm, below_alloc (below_alloc (Below.refl _ _) _) _⟩
set_option maxHeartbeats 8000000 in
set_option maxRecDepth 100000 in
theorem plFst_walkSL: ∀ (E : ByteArray → Option Bool) (Env : World → Prop) (hE : plEnd E 40 #[] Env) (k B d : Nat) (M : plM) (s : ByteArray) (out : List Int) (W : World), plFst E plLeast k d M s = some out → plMem W B M → Env W →
    Calls Tryd.prog 52 #[.agg #[.func (.func 40) #[] #[], .map (some B)], .string s, .func (.func 55) #[] #[]] W fun e W' => ∃ v, e = .returned v ∧ plOut W' W.heap.size v out ∧ W.grownBy W' (some B) := by
  intro E Env hE k B d M s out W h hM hEnv
  obtain ⟨⟨f, M1⟩, hf, h⟩ := Option.bind_eq_some_iff.mp h
  dsimp only at h
  by_cases hl : plLeast f ≤ 1000000
  case neg => rw [if_neg hl] at h; cases h
  rw [if_pos hl] at h
  obtain ⟨tf, htf⟩ : ∃ tf : Int, plLeast f = tf := ⟨_, rfl⟩
  rw [htf] at h hl
  have HM := Aside0.mk hM
  have HEnv := Aside0.mk hEnv
  have HF := Aside0.mk hf
  have HT := Aside0.mk htf
  have HL := Aside0.mk hl
  have HH := Aside0.mk h
  clear hM hEnv hf htf hl h
  have HBW := Aside0.mk HM.out.lt
  have hB2 : Below W.heap.size W ((W.alloc (.cells #[.func (.func 40) #[] #[], .map (some B)] 51)).alloc (.cells #[] 3)) := below_alloc (below_alloc (Below.refl _ _) _) _
  have HF1 := Aside0.mk (show plF1 W B (.func (.func 40) #[] #[]) ((W.alloc (.cells #[.func (.func 40) #[] #[], .map (some B)] 51)).alloc (.cells #[] 3)) from ⟨plGrown hB2 _, (Below.heap_alloc _ _ _ (by simp)).trans (blk_new W _)⟩)
  have HM1 := Aside0.mk (HM.out.below hB2)
  have HE1 := Aside0.mk (hE.kept _ _ B M HEnv.out HM.out (plGrown hB2 _))
  have HO1 := Aside0.mk (show plOut ((W.alloc (.cells #[.func (.func 40) #[] #[], .map (some B)] 51)).alloc (.cells #[] 3)) W.heap.size (.slice (some ⟨W.heap.size + 1, 0, none⟩) 0 0) [] from plOut.nil (by omega) (by have := blk_new (W.alloc (.cells #[.func (.func 40) #[] #[], .map (some B)] 51)) (.cells #[] 3); rw [show (W.alloc (.cells #[.func (.func 40) #[] #[], .map (some B)] 51)).heap.size = W.heap.size + 1 from by simp] at this; exact this))
  clear hB2
  go_enter Tryd.func52, Tryd.ntmps52
  go_wp2_with (first | (go_at_call 48; (refine (plOf_walkS E Env hE k B d M M1 s f _ HF.out HM1.out HE1.out).mono ?_); rintro e w3 ⟨rfl, hm3, hg3⟩; have HM3 := Aside0.mk hm3; have HF3 := Aside0.mk (HF1.out.kept HBW.out hg3); have HO3 := Aside0.mk (HO1.out.kept hg3 HBW.out); clear hm3 hg3) | (go_at_call 55; (refine (impl_leastOf.calls f.1 f.2.1 f.2.2 tf _ (by rw [← HT.out]; rfl)).mono ?_); rintro e w4 ⟨rfl, hb4⟩; have HM4 := Aside0.mk (HM3.out.below hb4); have HF4 := Aside0.mk (HF3.out.kept HBW.out (plGrown hb4 _)); have HO4 := Aside0.mk (HO3.out.kept (plGrown hb4 _) HBW.out); clear hb4))
  go_loopg [1, 7, 8] tf.toNat (fun kq v1 v7 v8 w' => ∃ (s1 : ByteArray) (vo : Value) (o1 : List Int) (M2 : plM) (lf : Int), v1 = .string s1 ∧ v7 = vo ∧ v8 = .int .i64 lf ∧ Aside0 (kq = lf.toNat) ∧ Aside0 (lf ≤ 1000000) ∧ Aside0 (plLoop (plOf E k d) plLeast k kq s1 o1 M2 = some out) ∧ Aside0 (plF1 W B (.func (.func 40) #[] #[]) w') ∧ Aside0 (plMem w' B M2) ∧ Aside0 (plOut w' W.heap.size vo o1))
  case atStart => exact ⟨s, _, [], M1, tf, rfl, rfl, rfl, ⟨rfl⟩, HL, HH, HF4, HM4, HO4⟩
  case round =>
    obtain ⟨s1, vo, o1, M2, lf, rfl, e7, rfl, HK, HLL, HLO, HFR, HMM, HOO⟩ := hrel
    obtain rfl : vo = u7 := e7.symm
    cases gk with
    | zero =>
      have c0 : decide (0 < lf) = false := decide_eq_false (by have := HK.out; omega)
      have ho := HLO.out
      simp only [plLoop, Option.some.injEq] at ho
      obtain rfl := ho
      go_wp2
      go_ret
      exact ⟨_, rfl, HOO.out, HFR.out.g⟩
    | succ k1 =>
      have c0 : decide (0 < lf) = true := decide_eq_true (by have := HK.out; omega)
      have ho := HLO.out
      simp only [plLoop] at ho
      obtain ⟨ms, hms, ho⟩ := Option.bind_eq_some_iff.mp ho
      by_cases hlen : ms.length ≤ 1000 ∧ o1.length ≤ 1000000
      case neg => rw [if_neg hlen] at ho; cases ho
      rw [if_pos hlen] at ho
      obtain ⟨⟨res, M3⟩, hfd, ho⟩ := Option.bind_eq_some_iff.mp ho
      have HMS := Aside0.mk hms
      have HLEN := Aside0.mk hlen
      have HFD := Aside0.mk hfd
      have HLP := Aside0.mk ho
      clear hms hlen hfd ho
      go_wp2_with (go_at_call 62; (refine (impl_hops.calls k s1 ms _ HMS.out).mono ?_); rintro e w6 ⟨v6, rfl, hR, hb6⟩; have HF6 := Aside0.mk (HFR.out.kept HBW.out (plGrown hb6 _)); have HM6 := Aside0.mk (HMM.out.below hb6); have HO6 := Aside0.mk (HOO.out.kept (plGrown hb6 _) HBW.out); have hrow := (plRow.ofR hR).lower (b' := W.heap.size) HFR.out.g.size; obtain ⟨A6, c6, rfl⟩ := hrow.form; have HRW6 := Aside0.mk hrow; clear hrow hR hb6)
      go_loopg [1, 7, 25] ms.length (fun kq v1 v7 v25 w' => ∃ (i : Int) (M4 : plM), v1 = .string s1 ∧ v7 = vo ∧ v25 = .int .i64 i ∧ Aside0 (i = (ms.length : Int) - (kq : Int)) ∧ Aside0 (kq ≤ ms.length) ∧ Aside0 (plFind (plOf E k d) plLeast s1 k1 (ms.drop (ms.length - kq)) M4 = some (res, M3)) ∧ Aside0 (plF1 W B (.func (.func 40) #[] #[]) w') ∧ Aside0 (plMem w' B M4) ∧ Aside0 (plOut w' W.heap.size vo o1) ∧ Aside0 (plRow w' W.heap.size (.slice A6 ms.length c6) ms))
      case atStart => exact ⟨0, M2, rfl, rfl, rfl, ⟨by omega⟩, ⟨Nat.le_refl _⟩, ⟨by rw [Nat.sub_self]; exact HFD.out⟩, HF6, HM6, HO6, HRW6⟩
      case round =>
        obtain ⟨i, M4, rfl, e7, rfl, HI, HKi, HFi0, HFi, HMi, HOi, HRi⟩ := hrel
        obtain rfl : vo = u7 := e7.symm
        cases gk with
        | zero =>
          have c1 : decide (i < (ms.length : Int)) = false := decide_eq_false (by have := HI.out; omega)
          have hfi : plFind (plOf E k d) plLeast s1 k1 (ms.drop (ms.length - 0)) M4 = some (res, M3) := HFi0.out
          rw [Nat.sub_zero, List.drop_length] at hfi
          simp only [plFind, Option.some.injEq, Prod.mk.injEq] at hfi
          obtain ⟨rfl, rfl⟩ := hfi
          have HNX := Aside0.mk (show plLoop (plOf E k d) plLeast k k1 s1 o1 M4 = some out from HLP.out)
          have wl : wrap64 (lf - 1) = lf - 1 := by have := HLL.out; have := HK.out; unfold wrap64; omega
          have wl' : IntKind.i64.wrap (lf - 1) = lf - 1 := (i64_w _).trans wl
          go_wp2
          go_roundg k1
          case measure => omega
          case rel => exact ⟨s1, vo, o1, M4, lf - 1, rfl, rfl, rfl, ⟨by have := HK.out; omega⟩, ⟨by have := HLL.out; omega⟩, HNX, HFi, HMi, HOi⟩
        | succ j1 =>
          have c1 : decide (i < (ms.length : Int)) = true := decide_eq_true (by have := HI.out; omega)
          have hi0 : 0 ≤ i := by have := HI.out; have := HKi.out; omega
          have hi1 : i < (ms.length : Int) := by have := HI.out; omega
          have hrn := HFi0.out
          rw [plDrop ms _ (show ms.length - (j1 + 1) < ms.length by have := HKi.out; omega), show (((ms.length - (j1 + 1) : Nat) : Nat) : Int) = i by have := HI.out; have := HKi.out; omega] at hrn
          simp only [plFind] at hrn
          obtain ⟨t, ht, hrn⟩ := Option.bind_eq_some_iff.mp hrn
          obtain ⟨⟨n, M5⟩, hn, hrn⟩ := Option.bind_eq_some_iff.mp hrn
          dsimp only at hrn
          rw [show ms.length - (j1 + 1) + 1 = ms.length - j1 by have := HKi.out; omega] at hrn
          obtain ⟨m, hm⟩ : ∃ m : Int, rd ms i = m := ⟨_, rfl⟩
          rw [hm] at ht hrn
          obtain ⟨g, arr, hgb, hA, hcs, harr⟩ : ∃ (g : Nat) (arr : Array Value), W.heap.size ≤ g ∧ A6 = some ⟨g, 0, none⟩ ∧ wr.heap[g]? = some (.cells arr 3 (0, 0)) ∧ ∀ j, j < ms.length → arr[j]? = some (.int .i64 (rd ms (j : Int))) := by
            obtain ⟨A, c, hv, h⟩ := HRi.out
            rcases h with h | h
            · rw [h] at hi1; simp at hi1; omega
            · injection hv with e1 e2 e3; rw [e1]; exact h
          subst hA
          have hcell : wr.cell? ⟨g, i.toNat, none⟩ = some (.int .i64 m) := by
            rw [blk_cell hcs, harr i.toNat (by omega), show ((i.toNat : Nat) : Int) = i by omega, hm]
          have HT2 := HT
          clear HT
          have HT := Aside0.mk ht
          have HN := Aside0.mk hn
          have HRN2 := Aside0.mk hrn
          have HIB := Aside0.mk (show 0 ≤ i ∧ i < (ms.length : Int) from ⟨hi0, hi1⟩)
          clear ht hn hrn hm hcs harr hgb
          go_wp2
          refine region_inv (J := fun L a Wc => ∃ v33 v34 v35 v36 v37 v10 : Value, a = { tmps := #[Value.agg #[Value.func (Fn.func 40) #[] #[], Value.map (some B)], Value.string s1, Value.func (Fn.func 55) #[] #[], Value.pointer (some { block := W.heap.size, off := 0 }), undef, undef, Value.slice none 0 0, vo, Value.int IntKind.i64 lf, undef, Value.int IntKind.i64 m, v10, Value.slice (some { block := W.heap.size + 1, off := 0 }) 0 0, Value.func (Fn.func 55) #[] #[], Value.agg #[Value.func (Fn.func 40) #[] #[], Value.map (some B)], Value.string s, plV f, Value.int IntKind.i64 tf, Value.int IntKind.i64 lf, Value.bool true, u20, u21, Value.string s1, Value.slice (some { block := g, off := 0 }) ms.length c6, Value.int IntKind.i64 (ms.length : Int), Value.int IntKind.i64 i, Value.bool true, Value.pointer (some { block := g, off := i.toNat }), Value.int IntKind.i64 m, v33, v34, v35, v36, v37, u34, u35, u36, u37, u38, u39, u40, u41, u42, u43, u44, u45, u46, u47, u48, u49, u50, u51, u52, undef], defers := [] } ∧ plRS wr B (.func (.func 40) #[] #[]) s1 t m n M4 M5 L v33 v34 v35 v36 v37 v10 Wc) (by kernel_rfl) (by kernel_rfl) ?start8 ?step8 ?fin8
          case start8 => exact ⟨_, _, _, _, _, _, rfl, ⟨plGrown (below_drew1 (Below.refl _ _)) _, by simpa using HMi.out.below (below_drew1 (Below.refl _ _)), nofun, nofun, nofun, nofun, nofun, nofun, nofun⟩⟩
          case step8 =>
            rintro L a Wc j o ho hL hp ⟨v33, v34, v35, v36, v37, v10, rfl, H⟩
            have hj : j < 7 := (Array.getElem?_eq_some_iff.1 ho).1
            rcases (show j = 0 ∨ j = 1 ∨ j = 2 ∨ j = 3 ∨ j = 4 ∨ j = 5 ∨ j = 6 by omega) with rfl | rfl | rfl | rfl | rfl | rfl | rfl
            all_goals (obtain rfl : _ = o := Option.some.inj (show some _ = some o from ho); simp [Region.binds] at hp; refine plOp_of rfl (fun K hK => ?_))
            · -- operation 0
              obtain ⟨p0, p1⟩ := (show Wc.cell? ⟨W.heap.size, 0, none⟩ = some (.func (.func 40) #[] #[]) ∧ Wc.cell? ⟨W.heap.size, 1, none⟩ = some (.map (some B)) from ⟨by rw [blk_cell (HFi.out.kept HBW.out H.g).p]; rfl, by rw [blk_cell (HFi.out.kept HBW.out H.g).p]; rfl⟩)
              go_simp
              refine Or.inl ?_
              have H1 := H
              refine hK _ _ ⟨_, v34, v35, v36, v37, v10, rfl, ⟨?_, ?_, ?_, ?_, ?_, ?_, ?_, ?_, ?_⟩⟩
              · exact H1.g
              · exact by simpa using H1.mem
              · exact fun _ => rfl
              · exact fun hl => H1.h1 (by simpa using hl)
              · exact fun hl => H1.h2 (by simpa using hl)
              · exact fun hl => H1.h3 (by simpa using hl)
              · exact fun hl => H1.h4 (by simpa using hl)
              · exact fun hl => by obtain ⟨b, q, e, x1, x2, x3⟩ := H1.h5 (by simpa using hl); exact ⟨b, q, e, x1, x2, fun h6 => x3 (by simpa using h6)⟩
              · exact fun hl => by have := H1.o6 (by simpa using hl); simp [this]
            · -- operation 1
              go_simp
              refine Or.inl ?_
              have H1 := H
              refine hK _ _ ⟨v33, _, v35, v36, v37, v10, rfl, ⟨?_, ?_, ?_, ?_, ?_, ?_, ?_, ?_, ?_⟩⟩
              · exact H1.g
              · exact by simpa using H1.mem
              · exact fun hl => H1.h0 (by simpa using hl)
              · exact fun _ => rfl
              · exact fun hl => H1.h2 (by simpa using hl)
              · exact fun hl => H1.h3 (by simpa using hl)
              · exact fun hl => H1.h4 (by simpa using hl)
              · exact fun hl => by obtain ⟨b, q, e, x1, x2, x3⟩ := H1.h5 (by simpa using hl); exact ⟨b, q, e, x1, x2, fun h6 => x3 (by simpa using h6)⟩
              · exact fun hl => by have := H1.o6 (by simpa using hl); simp [this]
            · -- operation 2
              go_simp
              refine Or.inl ?_
              have H1 := H
              refine hK _ _ ⟨v33, v34, _, v36, v37, v10, rfl, ⟨?_, ?_, ?_, ?_, ?_, ?_, ?_, ?_, ?_⟩⟩
              · exact H1.g
              · exact by simpa using H1.mem
              · exact fun hl => H1.h0 (by simpa using hl)
              · exact fun hl => H1.h1 (by simpa using hl)
              · exact fun _ => rfl
              · exact fun hl => H1.h3 (by simpa using hl)
              · exact fun hl => H1.h4 (by simpa using hl)
              · exact fun hl => by obtain ⟨b, q, e, x1, x2, x3⟩ := H1.h5 (by simpa using hl); exact ⟨b, q, e, x1, x2, fun h6 => x3 (by simpa using h6)⟩
              · exact fun hl => by have := H1.o6 (by simpa using hl); simp [this]
            · -- operation 3
              have y1 : L 1 = true := by simp [hp]
              have y2 : L 2 = true := by simp [hp]
              obtain rfl := H.h1 y1
              obtain rfl := H.h2 y2
              go_simp
              refine Or.inl ?_
              refine (impl_hopped.calls s1 m t _ HT.out).mono ?_
              rintro e w' ⟨rfl, hbw⟩
              have H1 := H.below hbw
              refine hK _ _ ⟨v33, _, _, _, v37, v10, rfl, ⟨?_, ?_, ?_, ?_, ?_, ?_, ?_, ?_, ?_⟩⟩
              · exact H1.g
              · exact by simpa using H1.mem
              · exact fun hl => H1.h0 (by simpa using hl)
              · exact fun hl => H1.h1 (by simpa using hl)
              · exact fun hl => H1.h2 (by simpa using hl)
              · exact fun _ => rfl
              · exact fun hl => H1.h4 (by simpa using hl)
              · exact fun hl => by obtain ⟨b, q, e, x1, x2, x3⟩ := H1.h5 (by simpa using hl); exact ⟨b, q, e, x1, x2, fun h6 => x3 (by simpa using h6)⟩
              · exact fun hl => by have := H1.o6 (by simpa using hl); simp [this]
            · -- operation 4
              have y0 : L 0 = true := by simp [hp]
              have y3 : L 3 = true := by simp [hp]
              obtain rfl := H.h0 y0
              obtain rfl := H.h3 y3
              have hm := H.mem
              rw [if_neg (by simp [hL])] at hm
              go_simp
              refine Or.inl ?_
              refine (plOf_walkS E Env hE k B d M4 M5 t n Wc HN.out hm (hE.kept _ _ B M HEnv.out HM.out (HFi.out.g.trans H.g))).mono ?_
              rintro e w' ⟨rfl, hm3, hg3⟩
              have H1 := H
              refine hK _ _ ⟨_, v34, v35, _, _, v10, rfl, ⟨?_, ?_, ?_, ?_, ?_, ?_, ?_, ?_, ?_⟩⟩
              · exact H1.g.trans hg3
              · exact by simpa using hm3
              · exact fun hl => H1.h0 (by simpa using hl)
              · exact fun hl => H1.h1 (by simpa using hl)
              · exact fun hl => H1.h2 (by simpa using hl)
              · exact fun hl => H1.h3 (by simpa using hl)
              · exact fun _ => rfl
              · exact fun hl => by obtain ⟨b, q, e, x1, x2, x3⟩ := H1.h5 (by simpa using hl); exact ⟨b, q, e, x1, blk_grown x2 hg3 (by intro e; injection e with e; have := HBW.out; have := HFi.out.g.size; omega), fun h6 => x3 (by simpa using h6)⟩
              · exact fun hl => by have := H1.o6 (by simpa using hl); simp [this]
            · -- operation 5
              go_simp
              refine Or.inl ?_
              have H1 := H.below (below_alloc (Below.refl _ _) (Obj.cells #[.int .i64 0, .int .i64 0, .int .i64 0] 55))
              refine hK _ _ ⟨v33, v34, v35, v36, v37, _, rfl, ⟨?_, ?_, ?_, ?_, ?_, ?_, ?_, ?_, ?_⟩⟩
              · exact H1.g
              · exact by simpa using H1.mem
              · exact fun hl => H1.h0 (by simpa using hl)
              · exact fun hl => H1.h1 (by simpa using hl)
              · exact fun hl => H1.h2 (by simpa using hl)
              · exact fun hl => H1.h3 (by simpa using hl)
              · exact fun hl => H1.h4 (by simpa using hl)
              · exact fun _ => ⟨Wc.heap.size, (0, 0, 0), rfl, H.g.size, blk_new Wc _, fun h6 => absurd (H.o6 (by simpa using h6)).2 (by simp [hL])⟩
              · exact fun hl => by have := H1.o6 (by simpa using hl); simp [this]
            · -- operation 6
              have y4 : L 4 = true := by simp [hp]
              have y5 : L 5 = true := by simp [hp]
              obtain rfl := H.h4 y4
              obtain ⟨b, q, rfl, x1, x2, x3⟩ := H.h5 y5
              have d0 : Wc.cell? ⟨b, 0, none⟩ = some (.int .i64 q.1) := by rw [blk_cell x2]; rfl
              have d1 : Wc.cell? ⟨b, 1, none⟩ = some (.int .i64 q.2.1) := by rw [blk_cell x2]; rfl
              have d2 : Wc.cell? ⟨b, 2, none⟩ = some (.int .i64 q.2.2) := by rw [blk_cell x2]; rfl
              have g0 := blk_frozen x2 0
              have g1 := blk_frozen x2 1
              have g2 := blk_frozen x2 2
              have hBb : B ≠ b := by have := HBW.out; have := HFi.out.g.size; omega
              go_simp
              refine Or.inl ?_
              have H1 := H
              refine hK _ _ ⟨v33, v34, v35, v36, _, _, rfl, ⟨?_, ?_, ?_, ?_, ?_, ?_, ?_, ?_, ?_⟩⟩
              · exact plSet (plSet (plSet H1.g x1 _) x1 _) x1 _
              · exact by have := H1.mem; simpa using ((this.set hBb _).set hBb _).set hBb _
              · exact fun hl => H1.h0 (by simpa using hl)
              · exact fun hl => H1.h1 (by simpa using hl)
              · exact fun hl => H1.h2 (by simpa using hl)
              · exact fun hl => H1.h3 (by simpa using hl)
              · exact fun _ => rfl
              · exact fun _ => ⟨b, n, rfl, x1, blk_put (blk_put (blk_put x2 0 _ rfl) 1 _ rfl) 2 _ rfl, fun _ => rfl⟩
              · exact fun _ => by simp [hp]
          case fin8 =>
            rintro L a Wc hall ⟨v33, v34, v35, v36, v37, v10, rfl, H⟩
            obtain ⟨b, q, rfl, x1, x2, x3⟩ := H.h5 (hall 5 (by decide))
            obtain rfl := x3 (hall 6 (by decide))
            obtain rfl := H.h4 (hall 4 (by decide))
            have hm3 := H.mem
            rw [if_pos (hall 4 (by decide))] at hm3
            have hg3 := H.g
            clear H hall x3
            obtain ⟨n1, n2, n3⟩ := q
            have HFc := Aside0.mk (HFi.out.kept HBW.out hg3)
            have HMc := Aside0.mk hm3
            have HOc := Aside0.mk (HOi.out.kept hg3 HBW.out)
            have HRc := Aside0.mk (HRi.out.kept hg3 HBW.out)
            have d0 : Wc.cell? ⟨b, 0, none⟩ = some (.int .i64 n1) := by rw [blk_cell x2]; rfl
            have d1 : Wc.cell? ⟨b, 1, none⟩ = some (.int .i64 n2) := by rw [blk_cell x2]; rfl
            have d2 : Wc.cell? ⟨b, 2, none⟩ = some (.int .i64 n3) := by rw [blk_cell x2]; rfl
            have wi : wrap64 (i + 1) = i + 1 := by have := HIB.out; have := HLEN.out.1; unfold wrap64; omega
            have wi' : IntKind.i64.wrap (i + 1) = i + 1 := (i64_w _).trans wi
            have wl : wrap64 (lf - 1) = lf - 1 := by have := HLL.out; have := HK.out; unfold wrap64; omega
            have wl' : IntKind.i64.wrap (lf - 1) = lf - 1 := (i64_w _).trans wl
            have hrn2 := HRN2.out
            dsimp only at hrn2
            clear x1 x2 hg3 hm3
            by_cases hz : 0 < n3
            · have z1 : decide (0 < n3) = true := decide_eq_true hz
              obtain ⟨tn, htn⟩ : ∃ tn : Int, plLeast (n1, n2, n3) = tn := ⟨_, rfl⟩
              rw [htn] at hrn2
              have HTN := Aside0.mk htn
              clear htn
              by_cases he : tn = (k1 : Int)
              · rw [if_pos ⟨hz, he⟩] at hrn2
                simp only [Option.some.injEq, Prod.mk.injEq] at hrn2
                obtain ⟨rfl, rfl⟩ := hrn2
                have z2 : (tn == lf - 1) = true := beq_iff_eq.2 (by have := HK.out; omega)
                have HNX := Aside0.mk (show plLoop (plOf E k d) plLeast k k1 t (o1 ++ [m]) M5 = some out from HLP.out)
                obtain ⟨ii, hii, hij⟩ := Option.map_eq_some_iff.1 info3
                simp only [Prod.mk.injEq] at hij
                have HII := Aside0.mk hii
                have HIJ := Aside0.mk hij
                clear hz he hii hij
                go_wp2_with (first | (go_at_call 55; (refine (impl_leastOf.calls n1 n2 n3 tn _ (by rw [← HTN.out]; rfl)).mono ?_); rintro e w8 ⟨rfl, hb8⟩; have HF8 := Aside0.mk (HFc.out.kept HBW.out (plGrown (below_alloc hb8 (.cells #[.int .i64 m] 3)) _)); have HM8 := Aside0.mk (HMc.out.below (below_alloc hb8 (.cells #[.int .i64 m] 3))); have HO8 := Aside0.mk (HOc.out.kept (plGrown (below_alloc hb8 (.cells #[.int .i64 m] 3)) (some B)) HBW.out); have HNW := Aside0.mk (plNews w8 m); have HON := Aside0.mk (plOne m); have HBD := Aside0.mk (show o1.length + 1 ≤ maxLen ∧ (o1.length + 1) * 8 ≤ 140737488355328 from by have := HLEN.out.2; unfold maxLen; omega); clear hb8) | (at_builtin; refine wpList_append_own _ rfl (.tmp 45) (.tmp 47) 34 rfl W.heap.size 3 ii (.int .i64 0) 1 8 ?a1 ?a2 ?a3 ?a4 ?a5 ?a6 ?a7 vo o1.length (o1.map (Value.int .i64)) ?a8 ?a9 ⟨w8.heap.size, 0, none⟩ 1 1 [.int .i64 m] ?b1 ?b2 ?b3 ?b4 ?b5 ?b6 ?b7 ?b8; (case a1 => exact Tryd.underlying34); (case a2 => exact HII.out); (case a3 => exact HIJ.out.1); (case a4 => exact HIJ.out.2.1); (case a5 => exact HIJ.out.2.2); (case a6 => rfl); (case a7 => decide); (case a8 => rfl); (case a9 => exact HO8.out); (case b1 => rfl); (case b2 => rfl); (case b3 => exact HNW.out); (case b4 => exact HON.out); (case b5 => exact HBD.out.1); (case b6 => exact HBD.out.2); (case b7 => exact HF8.out.g.size); intro v9 w9 hown9 hg9 _; have HF9 := Aside0.mk (plF1.row HF8.out HO8.out hg9); have HM9 := Aside0.mk (plMem.row HM8.out HO8.out hg9); have HO9 := Aside0.mk (plOut.snoc hown9); clear hown9 hg9) | (go_at_call 63; (refine (impl_hopped.calls s1 m t _ HT.out).mono ?_); rintro e w10 ⟨rfl, hb10⟩; have HFz := Aside0.mk (HF9.out.kept HBW.out (plGrown hb10 _)); have HMz := Aside0.mk (HM9.out.below hb10); have HOz := Aside0.mk (HO9.out.kept (plGrown hb10 (some B)) HBW.out); clear hb10))
                go_roundg k1
                case measure => omega
                case rel => exact ⟨t, _, o1 ++ [m], M5, lf - 1, rfl, rfl, rfl, ⟨by have := HK.out; omega⟩, ⟨by have := HLL.out; omega⟩, HNX, HFz, HMz, HOz⟩
              · rw [if_neg (fun h => he h.2)] at hrn2
                have z2 : (tn == lf - 1) = false := beq_eq_false_iff_ne.2 (fun h => he (by have := HK.out; omega))
                have HNX := Aside0.mk hrn2
                clear hz he hrn2
                go_wp2_with (first | (go_at_call 55; (refine (impl_leastOf.calls n1 n2 n3 tn _ (by rw [← HTN.out]; rfl)).mono ?_); rintro e w8 ⟨rfl, hb8⟩; have HF8 := Aside0.mk (HFc.out.kept HBW.out (plGrown hb8 _)); have HM8 := Aside0.mk (HMc.out.below hb8); have HO8 := Aside0.mk (HOc.out.kept (plGrown hb8 (some B)) HBW.out); have HR8 := Aside0.mk (HRc.out.kept (plGrown hb8 (some B)) HBW.out); clear hb8))
                go_roundg j1
                case measure => omega
                case rel => exact ⟨i + 1, M5, rfl, rfl, rfl, ⟨by have := HI.out; omega⟩, ⟨by have := HKi.out; omega⟩, HNX, HF8, HM8, HO8, HR8⟩
            · have z1 : decide (0 < n3) = false := decide_eq_false hz
              rw [if_neg (fun h => hz h.1)] at hrn2
              have HNX := Aside0.mk hrn2
              clear hz hrn2
              go_wp2
              go_roundg j1
              case measure => omega
              case rel => exact ⟨i + 1, M5, rfl, rfl, rfl, ⟨by have := HI.out; omega⟩, ⟨by have := HKi.out; omega⟩, HNX, HFc, HMc, HOc, HRc⟩
def impl_ShortestStuck.f (k : Nat) (a0 : ByteArray) : Option (List Int × Bool) := (impl_IsPond.f a0).bind fun p => if p = true then (plFst (impl_isStuck.f k) plLeast k k [] a0).bind fun l => some (l, true) else some ([], false)
theorem impl_ShortestStuck.mono : ∀ a0 k, LeO (impl_ShortestStuck.f k a0) (impl_ShortestStuck.f (k + 1) a0) := fun a0 k =>
  LeO.bind (LeO.refl _) (fun _ => LeO.ite (LeO.bind (plFst_le plLeast k k (fun s => impl_isStuck.mono s k) [] a0) (fun _ => LeO.refl _)) (LeO.refl _))
set_option maxHeartbeats 8000000 in
set_option maxRecDepth 100000 in
theorem impl_ShortestStuck.calls (k : Nat) (a0 : ByteArray) (r1 : List Int) (r2 : Bool) (w : World) (h : impl_ShortestStuck.f k a0 = some (r1, r2)) :
    Calls Tryd.prog 30 #[.string a0] w fun e w' => ∃ v0_ : Value, e = .returned (.tuple #[v0_, .bool r2]) ∧ Kd.R (Kd.int .i64) 3 w' w.heap.size (fun _ => True) v0_ r1 ∧ Below w.heap.size w w' := by
  obtain ⟨p, hp, h⟩ := Option.bind_eq_some_iff.mp h
  have HP := Aside0.mk hp
  clear hp
  cases p with
  | false =>
    simp only [Bool.false_eq_true, if_false, Option.some.injEq, Prod.mk.injEq] at h
    obtain ⟨rfl, rfl⟩ := h
    go_enter Tryd.func30, Tryd.ntmps30
    go_wp2_with (go_at_call 36; (refine (impl_IsPond.calls a0 false _ HP.out).mono ?_); rintro e w3 ⟨rfl, hb⟩; have HBL := Aside0.mk hb; clear hb)
    go_ret2
    exact ⟨_, rfl, Kd.R_nil _ _ _ _ _, HBL.out⟩
  | true =>
    rw [if_pos rfl] at h
    obtain ⟨l, hq, h⟩ := Option.bind_eq_some_iff.mp h
    simp only [Option.some.injEq, Prod.mk.injEq] at h
    obtain ⟨rfl, rfl⟩ := h
    have HQ := Aside0.mk hq
    clear hq
    go_enter Tryd.func30, Tryd.ntmps30
    go_wp2_with (first | (go_at_call 36; (refine (impl_IsPond.calls a0 true _ HP.out).mono ?_); rintro e w3 ⟨rfl, hb⟩; have HBL := Aside0.mk hb; clear hb) | (go_at_call 51; (refine (plTo_walk 40 #[] _).mono ?_); rintro e w4 ⟨B, rfl, hB, hm, hb⟩; have HB := Aside0.mk (Nat.le_trans HBL.out.size hB); have HM := Aside0.mk hm; have HBM := Aside0.mk (below_step HBL.out hb); clear hB hm hb) | (go_at_call 52; (refine (plFst_walkSL (impl_isStuck.f k) _ (plStuck k) k B k [] a0 l _ HQ.out HM.out trivial).mono ?_); rintro e w5 ⟨v5, rfl, ho5, hg5⟩; have HBZ := Aside0.mk (HBM.out.grown hg5 HBM.out.size (fun j hj => by injection hj with hj; have := HB.out; omega)); have HO5 := Aside0.mk (plOut.toR ho5 HBM.out.size); clear ho5 hg5))
    go_ret2
    exact ⟨_, rfl, HO5.out, HBZ.out⟩

/-! ### laws_FnExactShortestStuck: function 9 -/
mutual
def laws_FnExactShortestStuck.j0 : Nat → ByteArray → List Int → Bool → List Int → Bool → Option (Bool)
  | 0, _, _, _, _, _ => none
  | k + 1, x0, x3, x4, x5, x32 => if x32 = true then (some false) else ((laws_markIntS.f k x5 1).bind fun bt152 => ((laws_heldIntS.f k bt152.2 1).bind fun t154 => (if t154 < 0 then (some false) else (if t154 = bt152.1 then ((impl_ShortestStuck.f k x0).bind fun bt155 => ((laws_eqIntS.f k bt155.1 x3).bind fun t159 => (if t159 = true then (laws_FnExactShortestStuck.j1 k bt152.2 bt152.1 (bt155.2 != x4)) else (laws_FnExactShortestStuck.j1 k bt152.2 bt152.1 true)))) else (some false)))))
def laws_FnExactShortestStuck.j1 : Nat → List Int → Int → Bool → Option (Bool)
  | 0, _, _, _ => none
  | k + 1, x5, x7, x57 => if x57 = true then (some false) else ((laws_heldIntS.f k x5 1).bind fun t160 => (if t160 < 0 then (some false) else (if t160 = x7 then (some true) else (some false))))
end
def laws_FnExactShortestStuck.f (k : Nat) (a0 : ByteArray) : Option (Bool) := if (a0.size : Int) > 1048576 then (some true) else ((spec_ShortestStuck.f k a0).bind fun bt143 => ((impl_ShortestStuck.f k a0).bind fun bt147 => ((laws_eqIntS.f k bt147.1 bt143.1).bind fun t151 => (if t151 = true then (laws_FnExactShortestStuck.j0 k a0 bt143.1 bt143.2 bt147.1 (bt147.2 != bt143.2)) else (laws_FnExactShortestStuck.j0 k a0 bt143.1 bt143.2 bt147.1 true)))))
theorem laws_FnExactShortestStuck.mono_l : ∀ k, (∀ y0 y1 y2 y3 y4, LeO (laws_FnExactShortestStuck.j0 k y0 y1 y2 y3 y4) (laws_FnExactShortestStuck.j0 (k + 1) y0 y1 y2 y3 y4)) ∧ (∀ y0 y1 y2, LeO (laws_FnExactShortestStuck.j1 k y0 y1 y2) (laws_FnExactShortestStuck.j1 (k + 1) y0 y1 y2))
  | 0 => ⟨fun _ _ _ _ _ r h => by simp [laws_FnExactShortestStuck.j0] at h, fun _ _ _ r h => by simp [laws_FnExactShortestStuck.j1] at h⟩
  | k + 1 => by
    obtain ⟨ih0, ih1⟩ := laws_FnExactShortestStuck.mono_l k
    refine ⟨?_, ?_⟩
    · intro y0 y1 y2 y3 y4
      unfold laws_FnExactShortestStuck.j0
      repeat' first
      | (with_reducible exact ih0 _ _ _ _ _)
      | (with_reducible exact ih1 _ _ _)
      | (with_reducible exact impl_ShortestStuck.mono _ _)
      | (with_reducible exact laws_eqIntS.mono _ _ _)
      | (with_reducible exact laws_heldIntS.mono _ _ _)
      | (with_reducible exact laws_markIntS.mono _ _ _)
      | (with_reducible exact spec_ShortestStuck.mono _ _)
      | (with_reducible exact LeO.refl _)
      | (with_reducible exact LeO.none _)
      | (with_reducible refine LeO.ite ?_ ?_)
      | (with_reducible refine LeO.bind ?_ (fun _ => ?_))
      | exact ih0 _ _ _ _ _
      | exact ih1 _ _ _
      | exact impl_ShortestStuck.mono _ _
      | exact laws_eqIntS.mono _ _ _
      | exact laws_heldIntS.mono _ _ _
      | exact laws_markIntS.mono _ _ _
      | exact spec_ShortestStuck.mono _ _
      | exact LeO.none _
      | refine LeO.ite ?_ ?_
      | refine LeO.bind ?_ (fun _ => ?_)
    · intro y0 y1 y2
      unfold laws_FnExactShortestStuck.j1
      repeat' first
      | (with_reducible exact ih0 _ _ _ _ _)
      | (with_reducible exact ih1 _ _ _)
      | (with_reducible exact impl_ShortestStuck.mono _ _)
      | (with_reducible exact laws_eqIntS.mono _ _ _)
      | (with_reducible exact laws_heldIntS.mono _ _ _)
      | (with_reducible exact laws_markIntS.mono _ _ _)
      | (with_reducible exact spec_ShortestStuck.mono _ _)
      | (with_reducible exact LeO.refl _)
      | (with_reducible exact LeO.none _)
      | (with_reducible refine LeO.ite ?_ ?_)
      | (with_reducible refine LeO.bind ?_ (fun _ => ?_))
      | exact ih0 _ _ _ _ _
      | exact ih1 _ _ _
      | exact impl_ShortestStuck.mono _ _
      | exact laws_eqIntS.mono _ _ _
      | exact laws_heldIntS.mono _ _ _
      | exact laws_markIntS.mono _ _ _
      | exact spec_ShortestStuck.mono _ _
      | exact LeO.none _
      | refine LeO.ite ?_ ?_
      | refine LeO.bind ?_ (fun _ => ?_)
theorem laws_FnExactShortestStuck.mono : ∀ a0 k, LeO (laws_FnExactShortestStuck.f k a0) (laws_FnExactShortestStuck.f (k + 1) a0) := by
  intro a0 k
  obtain ⟨ih0, ih1⟩ := laws_FnExactShortestStuck.mono_l k
  unfold laws_FnExactShortestStuck.f
  repeat' first
      | (with_reducible exact ih0 _ _ _ _ _)
      | (with_reducible exact ih1 _ _ _)
      | (with_reducible exact impl_ShortestStuck.mono _ _)
      | (with_reducible exact laws_eqIntS.mono _ _ _)
      | (with_reducible exact laws_heldIntS.mono _ _ _)
      | (with_reducible exact laws_markIntS.mono _ _ _)
      | (with_reducible exact spec_ShortestStuck.mono _ _)
      | (with_reducible exact LeO.refl _)
      | (with_reducible exact LeO.none _)
      | (with_reducible refine LeO.ite ?_ ?_)
      | (with_reducible refine LeO.bind ?_ (fun _ => ?_))
      | exact ih0 _ _ _ _ _
      | exact ih1 _ _ _
      | exact impl_ShortestStuck.mono _ _
      | exact laws_eqIntS.mono _ _ _
      | exact laws_heldIntS.mono _ _ _
      | exact laws_markIntS.mono _ _ _
      | exact spec_ShortestStuck.mono _ _
      | exact LeO.none _
      | refine LeO.ite ?_ ?_
      | refine LeO.bind ?_ (fun _ => ?_)
set_option maxHeartbeats 8000000 in
set_option maxRecDepth 100000 in
theorem laws_FnExactShortestStuck.calls (k : Nat) (a0 : ByteArray) (r : Bool) (w : World) (h : laws_FnExactShortestStuck.f k a0 = some r) :
    Calls Tryd.prog 9 #[.string a0] w fun e w' => e = .returned (.bool r) ∧ Below w.heap.size w w' := by
  have HB := Aside0.mk (Below.refl w.heap.size w)
  have H : (if (a0.size : Int) > 1048576 then (some true) else ((spec_ShortestStuck.f k a0).bind fun bt143 => ((impl_ShortestStuck.f k a0).bind fun bt147 => ((laws_eqIntS.f k bt147.1 bt143.1).bind fun t151 => (if t151 = true then (laws_FnExactShortestStuck.j0 k a0 bt143.1 bt143.2 bt147.1 (bt147.2 != bt143.2)) else (laws_FnExactShortestStuck.j0 k a0 bt143.1 bt143.2 bt147.1 true)))))) = some r := h
  clear h
  by_cases c2 : (a0.size : Int) > 1048576
  · rw [if_pos c2] at H
    have c2b0 : decide (1048576 < (a0.size : Int)) = true := decide_eq_true c2
    have c2b1 : decide (1048576 < a0.size) = true := decide_eq_true (by omega)
    clear c2
    obtain rfl := Option.some.inj H
    go_enter Tryd.func9, Tryd.ntmps9
    go_wp2
    go_ret
    exact ⟨by first | rfl | (simp [errW_none, errW_some] <;> rfl) | (simp [*, errW_none, errW_some] <;> rfl), by repeat (first | (with_reducible first | exact HB.out | apply below_alloc | apply pw_below_drewN | apply below_drew1) | exact HB.out)⟩
  · rw [if_neg c2] at H
    have c2b0 : decide (1048576 < (a0.size : Int)) = false := decide_eq_false c2
    have c2b1 : decide (1048576 < a0.size) = false := decide_eq_false (by omega)
    clear c2
    replace H := Option.bind_eq_some_iff.mp H
    obtain ⟨⟨t143, t144⟩, A30, H⟩ := H
    replace H : ((impl_ShortestStuck.f k a0).bind fun bt147 => ((laws_eqIntS.f k bt147.1 t143).bind fun t151 => (if t151 = true then (laws_FnExactShortestStuck.j0 k a0 t143 t144 bt147.1 (bt147.2 != t144)) else (laws_FnExactShortestStuck.j0 k a0 t143 t144 bt147.1 true)))) = some r := H
    have A3 := Aside0.mk A30
    clear A30
    replace H := Option.bind_eq_some_iff.mp H
    obtain ⟨⟨t147, t148⟩, A40, H⟩ := H
    replace H : ((laws_eqIntS.f k t147 t143).bind fun t151 => (if t151 = true then (laws_FnExactShortestStuck.j0 k a0 t143 t144 t147 (t148 != t144)) else (laws_FnExactShortestStuck.j0 k a0 t143 t144 t147 true))) = some r := H
    have A4 := Aside0.mk A40
    clear A40
    have HC5 := Aside0.mk H
    clear H
    go_enter Tryd.func9, Tryd.ntmps9
    go_upto_region 5 with (first | ((with_reducible refine gate_callee (f := 29) rfl ?_); refine goesL_ (some 16) rfl rfl Tryd.func29 (by kernel_rfl) rfl #[.string a0] rfl (by (try simp only [List.map_toArray, List.map_cons, List.map_nil]); first | done | rfl | (simp only [List.length_drop, List.length_take]; rfl)) ?_; (with_reducible refine (spec_ShortestStuck.calls k a0 t143 t144 _ A3.out).mono ?_); rintro e w6 ⟨v145, rfl, ho0, hb⟩; refine ⟨_, rfl, ?_⟩; have n0_ := Aside0.mk (Kd.R_lower ho0 (below_size (by repeat (first | (with_reducible first | exact HB.out | apply below_alloc | apply pw_below_drewN | apply below_drew1) | exact HB.out)))); have n1_ := Aside0.mk (below_step (by repeat (first | (with_reducible first | exact HB.out | apply below_alloc | apply pw_below_drewN | apply below_drew1) | exact HB.out)) hb); clear HB; have HO146 := n0_; have HB := n1_; clear n0_ n1_; (try clear hb); (try clear hb2); (try clear hk); (try clear hi); (try clear ho0)) | ((with_reducible refine gate_callee (f := 30) rfl ?_); refine goesL_ (some 21) rfl rfl Tryd.func30 (by kernel_rfl) rfl #[.string a0] rfl (by (try simp only [List.map_toArray, List.map_cons, List.map_nil]); first | done | rfl | (simp only [List.length_drop, List.length_take]; rfl)) ?_; (with_reducible refine (impl_ShortestStuck.calls k a0 t147 t148 _ A4.out).mono ?_); rintro e w7 ⟨v149, rfl, ho0, hb⟩; refine ⟨_, rfl, ?_⟩; have n0_ := Aside0.mk (Kd.R_elder' (by (with_reducible repeat (first | apply Kd.R_alloc | apply Kd.R_drewN | apply Kd.R_drew)); exact HO146.out) (Kd.R_base ho0) hb); have n1_ := Aside0.mk (Kd.R_lower (Kd.R_new' ho0 (Kd.R_lt (by (with_reducible repeat (first | apply Kd.R_alloc | apply Kd.R_drewN | apply Kd.R_drew)); exact HO146.out))) (below_size (by repeat (first | (with_reducible first | exact HB.out | apply below_alloc | apply pw_below_drewN | apply below_drew1) | exact HB.out)))); have n2_ := Aside0.mk (below_step (by repeat (first | (with_reducible first | exact HB.out | apply below_alloc | apply pw_below_drewN | apply below_drew1) | exact HB.out)) hb); clear HO146; clear HB; have HO146 := n0_; have HO150 := n1_; have HB := n2_; clear n0_ n1_ n2_; (try clear hb); (try clear hb2); (try clear hk); (try clear hi); (try clear ho0)))
    (try simp only [Act.put, List.setIfInBounds_toArray, List.set_cons_zero, List.set_cons_succ])
    go_cut [32] (fun v32 wc => ∃ (kq : Nat) (x32_4 : Bool), v32 = .bool x32_4 ∧ Aside0 (laws_FnExactShortestStuck.j0 kq a0 t143 t144 t147 x32_4 = some r) ∧ Aside0 (kq ≤ k) ∧ Aside0 (Kd.R (Kd.int .i64) 3 wc w.heap.size (fun k_ => some k_ ≠ (v149 : Value).ownBlock) v145 t143) ∧ Aside0 (Kd.R (Kd.int .i64) 3 wc w.heap.size (fun k_ => some k_ ≠ (v145 : Value).ownBlock) v149 t147) ∧ Aside0 (Below w.heap.size w wc))
    case first =>
      have H := HC5.out
      clear HC5
      replace H := Option.bind_eq_some_iff.mp H
      obtain ⟨t151, A80, H⟩ := H
      replace H : (if t151 = true then (laws_FnExactShortestStuck.j0 k a0 t143 t144 t147 (t148 != t144)) else (laws_FnExactShortestStuck.j0 k a0 t143 t144 t147 true)) = some r := H
      have A8 := Aside0.mk A80
      clear A80
      by_cases c9 : t151 = true
      · subst c9
        have H1 : (laws_FnExactShortestStuck.j0 k a0 t143 t144 t147 (t148 != t144)) = some r := by rw [if_pos rfl] at H; exact H
        clear H
        have H := H1
        clear H1
        have H' := Aside0.mk H
        clear H
        obtain ⟨Ao10, co10, eo10⟩ := Kd.R_slice HO150.out
        subst eo10
        obtain ⟨Ao11, co11, eo11⟩ := Kd.R_slice HO146.out
        subst eo11
        go_wp2_with (first | ((with_reducible refine gate_callee (f := 26) rfl ?_); refine goesL_ (some 26) rfl rfl Tryd.func26 (by kernel_rfl) rfl #[.slice Ao10 t147.length co10, .slice Ao11 t143.length co11] rfl (by (try simp only [List.map_toArray, List.map_cons, List.map_nil]); first | done | rfl | (simp only [List.length_drop, List.length_take]; rfl)) ?_; (with_reducible refine (laws_eqIntS.calls k _ _ t147 _ _ t143 true _ ?side1 ?side2 ?side3 ?side4 A8.out).mono ?_); (case side1 => repeat (first | exact (Kd.R_reads' HO150.out).2.2 | (with_reducible refine Kd.C_alloc ?_ _) | (with_reducible refine Kd.C_drewN ?_ _) | (with_reducible refine Kd.C_drew ?_))); (case side2 => exact (Kd.R_reads' HO150.out).2.1); (case side3 => repeat (first | exact (Kd.R_reads' HO146.out).2.2 | (with_reducible refine Kd.C_alloc ?_ _) | (with_reducible refine Kd.C_drewN ?_ _) | (with_reducible refine Kd.C_drew ?_))); (case side4 => exact (Kd.R_reads' HO146.out).2.1); rintro e w' ⟨rfl, ⟨nd, rfl⟩⟩; refine ⟨_, rfl, ?_⟩))
        go_meet
        case rel => exact ⟨_, ((t148 != t144)), (by first | rfl | (simp; done) | (simp [*]; done)), H', ⟨by first | omega | exact Nat.le_refl _⟩, ⟨by (with_reducible repeat (first | apply Kd.R_alloc | apply Kd.R_drewN | apply Kd.R_drew)); exact Kd.R_mono HO146.out (fun _ hk => hk.2)⟩, ⟨by (with_reducible repeat (first | apply Kd.R_alloc | apply Kd.R_drewN | apply Kd.R_drew)); exact Kd.R_mono HO150.out (fun _ hk => hk.2)⟩, ⟨by repeat (first | (with_reducible first | exact HB.out | apply below_alloc | apply pw_below_drewN | apply below_drew1) | exact HB.out)⟩⟩
      · replace c9 := Bool.eq_false_iff.mpr c9
        subst c9
        have H1 : (laws_FnExactShortestStuck.j0 k a0 t143 t144 t147 true) = some r := by rw [if_neg (show ¬ (false = true) by decide)] at H; exact H
        clear H
        have H := H1
        clear H1
        have H' := Aside0.mk H
        clear H
        obtain ⟨Ao12, co12, eo12⟩ := Kd.R_slice HO150.out
        subst eo12
        obtain ⟨Ao13, co13, eo13⟩ := Kd.R_slice HO146.out
        subst eo13
        go_wp2_with (first | ((with_reducible refine gate_callee (f := 26) rfl ?_); refine goesL_ (some 26) rfl rfl Tryd.func26 (by kernel_rfl) rfl #[.slice Ao12 t147.length co12, .slice Ao13 t143.length co13] rfl (by (try simp only [List.map_toArray, List.map_cons, List.map_nil]); first | done | rfl | (simp only [List.length_drop, List.length_take]; rfl)) ?_; (with_reducible refine (laws_eqIntS.calls k _ _ t147 _ _ t143 false _ ?side1 ?side2 ?side3 ?side4 A8.out).mono ?_); (case side1 => repeat (first | exact (Kd.R_reads' HO150.out).2.2 | (with_reducible refine Kd.C_alloc ?_ _) | (with_reducible refine Kd.C_drewN ?_ _) | (with_reducible refine Kd.C_drew ?_))); (case side2 => exact (Kd.R_reads' HO150.out).2.1); (case side3 => repeat (first | exact (Kd.R_reads' HO146.out).2.2 | (with_reducible refine Kd.C_alloc ?_ _) | (with_reducible refine Kd.C_drewN ?_ _) | (with_reducible refine Kd.C_drew ?_))); (case side4 => exact (Kd.R_reads' HO146.out).2.1); rintro e w' ⟨rfl, ⟨nd, rfl⟩⟩; refine ⟨_, rfl, ?_⟩))
        go_meet
        case rel => exact ⟨_, (true), (by first | rfl | (simp; done) | (simp [*]; done)), H', ⟨by first | omega | exact Nat.le_refl _⟩, ⟨by (with_reducible repeat (first | apply Kd.R_alloc | apply Kd.R_drewN | apply Kd.R_drew)); exact Kd.R_mono HO146.out (fun _ hk => hk.2)⟩, ⟨by (with_reducible repeat (first | apply Kd.R_alloc | apply Kd.R_drewN | apply Kd.R_drew)); exact Kd.R_mono HO150.out (fun _ hk => hk.2)⟩, ⟨by repeat (first | (with_reducible first | exact HB.out | apply below_alloc | apply pw_below_drewN | apply below_drew1) | exact HB.out)⟩⟩
    case rest =>
      clear HC5
      try clear c2
      try clear c2b0
      try clear c2b1
      try clear p2
      try clear c3
      try clear c9
      obtain ⟨kq, x32_4, rfl, HA, HJ4, HO_3, HO_5, HB⟩ := hcut
      cases kq with
      | zero => exact absurd HA.out (by simp [laws_FnExactShortestStuck.j0])
      | succ kj4 =>
        have H := HA.out
        clear HA
        simp only [laws_FnExactShortestStuck.j0] at H
        by_cases c14 : x32_4 = true
        · subst c14
          have H1 : (some false) = some r := by rw [if_pos rfl] at H; exact H
          clear H
          have H := H1
          clear H1
          obtain rfl := Option.some.inj H
          go_wp2
          go_ret
          exact ⟨by first | rfl | (simp [errW_none, errW_some] <;> rfl) | (simp [*, errW_none, errW_some] <;> rfl), by repeat (first | (with_reducible first | exact HB.out | apply below_alloc | apply pw_below_drewN | apply below_drew1) | exact HB.out)⟩
        · replace c14 := Bool.eq_false_iff.mpr c14
          subst c14
          have H1 : ((laws_markIntS.f kj4 t147 1).bind fun bt152 => ((laws_heldIntS.f kj4 bt152.2 1).bind fun t154 => (if t154 < 0 then (some false) else (if t154 = bt152.1 then ((impl_ShortestStuck.f kj4 a0).bind fun bt155 => ((laws_eqIntS.f kj4 bt155.1 t143).bind fun t159 => (if t159 = true then (laws_FnExactShortestStuck.j1 kj4 bt152.2 bt152.1 (bt155.2 != t144)) else (laws_FnExactShortestStuck.j1 kj4 bt152.2 bt152.1 true)))) else (some false))))) = some r := by rw [if_neg (show ¬ (false = true) by decide)] at H; exact H
          clear H
          have H := H1
          clear H1
          replace H := Option.bind_eq_some_iff.mp H
          obtain ⟨⟨t152, t153⟩, A150, H⟩ := H
          replace H : ((laws_heldIntS.f kj4 t153 1).bind fun t154 => (if t154 < 0 then (some false) else (if t154 = t152 then ((impl_ShortestStuck.f kj4 a0).bind fun bt155 => ((laws_eqIntS.f kj4 bt155.1 t143).bind fun t159 => (if t159 = true then (laws_FnExactShortestStuck.j1 kj4 t153 t152 (bt155.2 != t144)) else (laws_FnExactShortestStuck.j1 kj4 t153 t152 true)))) else (some false)))) = some r := H
          have A15 := Aside0.mk A150
          clear A150
          replace H := Option.bind_eq_some_iff.mp H
          obtain ⟨t154, A160, H⟩ := H
          replace H : (if t154 < 0 then (some false) else (if t154 = t152 then ((impl_ShortestStuck.f kj4 a0).bind fun bt155 => ((laws_eqIntS.f kj4 bt155.1 t143).bind fun t159 => (if t159 = true then (laws_FnExactShortestStuck.j1 kj4 t153 t152 (bt155.2 != t144)) else (laws_FnExactShortestStuck.j1 kj4 t153 t152 true)))) else (some false))) = some r := H
          have A16 := Aside0.mk A160
          clear A160
          by_cases c17 : t154 < 0
          · rw [if_pos c17] at H
            have c17b0 : decide (t154 < 0) = true := decide_eq_true c17
            clear c17
            obtain rfl := Option.some.inj H
            obtain ⟨Ao18, co18, eo18⟩ := Kd.R_slice HO_5.out
            subst eo18
            go_wp2_with (first | ((with_reducible refine gate_callee (f := 27) rfl ?_); refine goesL_ (some 35) rfl rfl Tryd.func27 (by kernel_rfl) rfl #[.slice Ao18 t147.length co18, .int .i64 1] rfl (by (try simp only [List.map_toArray, List.map_cons, List.map_nil]); first | done | rfl | (simp only [List.length_drop, List.length_take]; rfl)) ?_; (with_reducible refine (laws_markIntS.calls kj4 (fun k_ => some k_ = (.slice Ao18 t147.length co18 : Value).ownBlock) (.slice Ao18 t147.length co18) t147 1 t152 t153 w _ ?side1 ?side2 A15.out).mono ?_); (case side1 => repeat (first | (with_reducible first | exact HB.out | apply below_alloc | apply pw_below_drewN | apply below_drew1) | exact HB.out)); (case side2 => exact Kd.R_tight rfl HO_5.out); rintro e w19 ⟨rfl, hy0, hb, hkp⟩; refine ⟨_, rfl, ?_⟩; have n0_ := Aside0.mk (Kd.R_mono (ok' := fun k_ => some k_ ≠ (.slice Ao18 t147.length co18 : Value).ownBlock) (Kd.R_keptB (HO_3.out) hkp (fun k_ hk_ hs_ => (hk_) hs_)) (fun k_ hk_ => hk_.1)); have n1_ := Aside0.mk (Kd.R_reok rfl hy0 (fun k_ e_ => HO_5.out.1 k_ e_)); have n2_ := Aside0.mk (hb); clear HO_3; clear HO_5; clear HB; have HO_3 := n0_; have HO_5 := n1_; have HB := n2_; clear n0_ n1_ n2_; (try clear hb); (try clear hkp); (try clear hy0)) | ((with_reducible refine gate_callee (f := 28) rfl ?_); refine goesL_ (some 38) rfl rfl Tryd.func28 (by kernel_rfl) rfl #[.slice Ao18 t153.length co18, .int .i64 1] rfl (by (try simp only [List.map_toArray, List.map_cons, List.map_nil]); first | done | (rw [show t153.length = t147.length from (Kd.R_reads' HO_5.out).1.symm] <;> rfl) | rfl | (simp only [List.length_drop, List.length_take]; rfl)) ?_; (with_reducible refine (laws_heldIntS.calls kj4 _ _ t153 1 t154 _ ?side1 ?side2 A16.out).mono ?_); (case side1 => repeat (first | exact (Kd.R_reads' HO_5.out).2.2 | (with_reducible refine Kd.C_alloc ?_ _) | (with_reducible refine Kd.C_drewN ?_ _) | (with_reducible refine Kd.C_drew ?_))); (case side2 => rw [show t153.length = t147.length from (Kd.R_reads' HO_5.out).1.symm]; exact (Kd.R_reads' HO_5.out).2.1); rintro e w' ⟨rfl, ⟨nd, rfl⟩⟩; refine ⟨_, rfl, ?_⟩))
            go_ret
            exact ⟨by first | rfl | (simp [errW_none, errW_some] <;> rfl) | (simp [*, errW_none, errW_some] <;> rfl), by repeat (first | (with_reducible first | exact HB.out | apply below_alloc | apply pw_below_drewN | apply below_drew1) | exact HB.out)⟩
          · rw [if_neg c17] at H
            have c17b0 : decide (t154 < 0) = false := decide_eq_false c17
            clear c17
            by_cases c20 : t154 = t152
            · rw [if_pos c20] at H
              have c20b0 : (t154 == t152) = true := beq_iff_eq.mpr c20
              have c20b1 : (t154 != t152) = false := bne_eq_false_iff_eq.mpr c20
              clear c20
              replace H := Option.bind_eq_some_iff.mp H
              obtain ⟨⟨t155, t156⟩, A210, H⟩ := H
              replace H : ((laws_eqIntS.f kj4 t155 t143).bind fun t159 => (if t159 = true then (laws_FnExactShortestStuck.j1 kj4 t153 t152 (t156 != t144)) else (laws_FnExactShortestStuck.j1 kj4 t153 t152 true))) = some r := H
              have A21 := Aside0.mk A210
              clear A210
              have HC22 := Aside0.mk H
              clear H
              obtain ⟨Ao23, co23, eo23⟩ := Kd.R_slice HO_5.out
              subst eo23
              go_upto_region 16 with (first | ((with_reducible refine gate_callee (f := 27) rfl ?_); refine goesL_ (some 35) rfl rfl Tryd.func27 (by kernel_rfl) rfl #[.slice Ao23 t147.length co23, .int .i64 1] rfl (by (try simp only [List.map_toArray, List.map_cons, List.map_nil]); first | done | rfl | (simp only [List.length_drop, List.length_take]; rfl)) ?_; (with_reducible refine (laws_markIntS.calls kj4 (fun k_ => some k_ = (.slice Ao23 t147.length co23 : Value).ownBlock) (.slice Ao23 t147.length co23) t147 1 t152 t153 w _ ?side1 ?side2 A15.out).mono ?_); (case side1 => repeat (first | (with_reducible first | exact HB.out | apply below_alloc | apply pw_below_drewN | apply below_drew1) | exact HB.out)); (case side2 => exact Kd.R_tight rfl HO_5.out); rintro e w24 ⟨rfl, hy0, hb, hkp⟩; refine ⟨_, rfl, ?_⟩; have n0_ := Aside0.mk (Kd.R_mono (ok' := fun k_ => some k_ ≠ (.slice Ao23 t147.length co23 : Value).ownBlock) (Kd.R_keptB (HO_3.out) hkp (fun k_ hk_ hs_ => (hk_) hs_)) (fun k_ hk_ => hk_.1)); have n1_ := Aside0.mk (Kd.R_reok rfl hy0 (fun k_ e_ => HO_5.out.1 k_ e_)); have n2_ := Aside0.mk (hb); clear HO_3; clear HO_5; clear HB; have HO_3 := n0_; have HO_5 := n1_; have HB := n2_; clear n0_ n1_ n2_; (try clear hb); (try clear hkp); (try clear hy0)) | ((with_reducible refine gate_callee (f := 28) rfl ?_); refine goesL_ (some 38) rfl rfl Tryd.func28 (by kernel_rfl) rfl #[.slice Ao23 t153.length co23, .int .i64 1] rfl (by (try simp only [List.map_toArray, List.map_cons, List.map_nil]); first | done | (rw [show t153.length = t147.length from (Kd.R_reads' HO_5.out).1.symm] <;> rfl) | rfl | (simp only [List.length_drop, List.length_take]; rfl)) ?_; (with_reducible refine (laws_heldIntS.calls kj4 _ _ t153 1 t154 _ ?side1 ?side2 A16.out).mono ?_); (case side1 => repeat (first | exact (Kd.R_reads' HO_5.out).2.2 | (with_reducible refine Kd.C_alloc ?_ _) | (with_reducible refine Kd.C_drewN ?_ _) | (with_reducible refine Kd.C_drew ?_))); (case side2 => rw [show t153.length = t147.length from (Kd.R_reads' HO_5.out).1.symm]; exact (Kd.R_reads' HO_5.out).2.1); rintro e w' ⟨rfl, ⟨nd, rfl⟩⟩; refine ⟨_, rfl, ?_⟩) | ((with_reducible refine gate_callee (f := 30) rfl ?_); refine goesL_ (some 46) rfl rfl Tryd.func30 (by kernel_rfl) rfl #[.string a0] rfl (by (try simp only [List.map_toArray, List.map_cons, List.map_nil]); first | done | rfl | (simp only [List.length_drop, List.length_take]; rfl)) ?_; (with_reducible refine (impl_ShortestStuck.calls kj4 a0 t155 t156 _ A21.out).mono ?_); rintro e w25 ⟨v157, rfl, ho0, hb⟩; refine ⟨_, rfl, ?_⟩; have n0_ := Aside0.mk (Kd.R_elder' (by (with_reducible repeat (first | apply Kd.R_alloc | apply Kd.R_drewN | apply Kd.R_drew)); exact HO_3.out) (Kd.R_base ho0) hb); have n1_ := Aside0.mk (Kd.R_elder' (by (with_reducible repeat (first | apply Kd.R_alloc | apply Kd.R_drewN | apply Kd.R_drew)); exact HO_5.out) (Kd.R_base ho0) hb); have n2_ := Aside0.mk (Kd.R_lower (Kd.R_new' (Kd.R_new' ho0 (Kd.R_lt (by (with_reducible repeat (first | apply Kd.R_alloc | apply Kd.R_drewN | apply Kd.R_drew)); exact HO_3.out))) (Kd.R_lt (by (with_reducible repeat (first | apply Kd.R_alloc | apply Kd.R_drewN | apply Kd.R_drew)); exact HO_5.out))) (below_size (by repeat (first | (with_reducible first | exact HB.out | apply below_alloc | apply pw_below_drewN | apply below_drew1) | exact HB.out)))); have n3_ := Aside0.mk (below_step (by repeat (first | (with_reducible first | exact HB.out | apply below_alloc | apply pw_below_drewN | apply below_drew1) | exact HB.out)) hb); clear HO_3; clear HO_5; clear HB; have HO_3 := n0_; have HO_5 := n1_; have HO158 := n2_; have HB := n3_; clear n0_ n1_ n2_ n3_; (try clear hb); (try clear hb2); (try clear hk); (try clear hi); (try clear ho0)))
              (try simp only [Act.put, List.setIfInBounds_toArray, List.set_cons_zero, List.set_cons_succ])
              go_cut [57] (fun v57 wc => ∃ (kq : Nat) (x57_21 : Bool), v57 = .bool x57_21 ∧ Aside0 (laws_FnExactShortestStuck.j1 kq t153 t152 x57_21 = some r) ∧ Aside0 (kq ≤ kj4) ∧ Aside0 (Kd.R (Kd.int .i64) 3 wc w.heap.size (fun _ => True) (.slice Ao23 t147.length co23) t153) ∧ Aside0 (Below w.heap.size w wc))
              case first =>
                have H := HC22.out
                clear HC22
                replace H := Option.bind_eq_some_iff.mp H
                obtain ⟨t159, A260, H⟩ := H
                replace H : (if t159 = true then (laws_FnExactShortestStuck.j1 kj4 t153 t152 (t156 != t144)) else (laws_FnExactShortestStuck.j1 kj4 t153 t152 true)) = some r := H
                have A26 := Aside0.mk A260
                clear A260
                by_cases c27 : t159 = true
                · subst c27
                  have H1 : (laws_FnExactShortestStuck.j1 kj4 t153 t152 (t156 != t144)) = some r := by rw [if_pos rfl] at H; exact H
                  clear H
                  have H := H1
                  clear H1
                  have H' := Aside0.mk H
                  clear H
                  obtain ⟨Ao28, co28, eo28⟩ := Kd.R_slice HO158.out
                  subst eo28
                  obtain ⟨Ao29, co29, eo29⟩ := Kd.R_slice HO_3.out
                  subst eo29
                  go_wp2_with (first | ((with_reducible refine gate_callee (f := 26) rfl ?_); refine goesL_ (some 51) rfl rfl Tryd.func26 (by kernel_rfl) rfl #[.slice Ao28 t155.length co28, .slice Ao29 t143.length co29] rfl (by (try simp only [List.map_toArray, List.map_cons, List.map_nil]); first | done | rfl | (simp only [List.length_drop, List.length_take]; rfl)) ?_; (with_reducible refine (laws_eqIntS.calls kj4 _ _ t155 _ _ t143 true _ ?side1 ?side2 ?side3 ?side4 A26.out).mono ?_); (case side1 => repeat (first | exact (Kd.R_reads' HO158.out).2.2 | (with_reducible refine Kd.C_alloc ?_ _) | (with_reducible refine Kd.C_drewN ?_ _) | (with_reducible refine Kd.C_drew ?_))); (case side2 => exact (Kd.R_reads' HO158.out).2.1); (case side3 => repeat (first | exact (Kd.R_reads' HO_3.out).2.2 | (with_reducible refine Kd.C_alloc ?_ _) | (with_reducible refine Kd.C_drewN ?_ _) | (with_reducible refine Kd.C_drew ?_))); (case side4 => exact (Kd.R_reads' HO_3.out).2.1); rintro e w' ⟨rfl, ⟨nd, rfl⟩⟩; refine ⟨_, rfl, ?_⟩))
                  go_meet
                  case rel => exact ⟨_, ((t156 != t144)), (by first | rfl | (simp; done) | (simp [*]; done)), H', ⟨by have := HJ4.out; first | omega | exact Nat.le_refl _⟩, ⟨by (with_reducible repeat (first | apply Kd.R_alloc | apply Kd.R_drewN | apply Kd.R_drew)); exact Kd.R_mono HO_5.out (fun _ hk => trivial)⟩, ⟨by repeat (first | (with_reducible first | exact HB.out | apply below_alloc | apply pw_below_drewN | apply below_drew1) | exact HB.out)⟩⟩
                · replace c27 := Bool.eq_false_iff.mpr c27
                  subst c27
                  have H1 : (laws_FnExactShortestStuck.j1 kj4 t153 t152 true) = some r := by rw [if_neg (show ¬ (false = true) by decide)] at H; exact H
                  clear H
                  have H := H1
                  clear H1
                  have H' := Aside0.mk H
                  clear H
                  obtain ⟨Ao30, co30, eo30⟩ := Kd.R_slice HO158.out
                  subst eo30
                  obtain ⟨Ao31, co31, eo31⟩ := Kd.R_slice HO_3.out
                  subst eo31
                  go_wp2_with (first | ((with_reducible refine gate_callee (f := 26) rfl ?_); refine goesL_ (some 51) rfl rfl Tryd.func26 (by kernel_rfl) rfl #[.slice Ao30 t155.length co30, .slice Ao31 t143.length co31] rfl (by (try simp only [List.map_toArray, List.map_cons, List.map_nil]); first | done | rfl | (simp only [List.length_drop, List.length_take]; rfl)) ?_; (with_reducible refine (laws_eqIntS.calls kj4 _ _ t155 _ _ t143 false _ ?side1 ?side2 ?side3 ?side4 A26.out).mono ?_); (case side1 => repeat (first | exact (Kd.R_reads' HO158.out).2.2 | (with_reducible refine Kd.C_alloc ?_ _) | (with_reducible refine Kd.C_drewN ?_ _) | (with_reducible refine Kd.C_drew ?_))); (case side2 => exact (Kd.R_reads' HO158.out).2.1); (case side3 => repeat (first | exact (Kd.R_reads' HO_3.out).2.2 | (with_reducible refine Kd.C_alloc ?_ _) | (with_reducible refine Kd.C_drewN ?_ _) | (with_reducible refine Kd.C_drew ?_))); (case side4 => exact (Kd.R_reads' HO_3.out).2.1); rintro e w' ⟨rfl, ⟨nd, rfl⟩⟩; refine ⟨_, rfl, ?_⟩))
                  go_meet
                  case rel => exact ⟨_, (true), (by first | rfl | (simp; done) | (simp [*]; done)), H', ⟨by have := HJ4.out; first | omega | exact Nat.le_refl _⟩, ⟨by (with_reducible repeat (first | apply Kd.R_alloc | apply Kd.R_drewN | apply Kd.R_drew)); exact Kd.R_mono HO_5.out (fun _ hk => trivial)⟩, ⟨by repeat (first | (with_reducible first | exact HB.out | apply below_alloc | apply pw_below_drewN | apply below_drew1) | exact HB.out)⟩⟩
              case rest =>
                clear HC22
                try clear c1
                try clear c2
                try clear c2b0
                try clear c2b1
                try clear p2
                try clear c3
                try clear c9
                try clear c14
                try clear c17
                try clear c17b0
                try clear c20
                try clear c20b0
                try clear c20b1
                try clear c26
                try clear c27
                try clear c28
                try clear c29
                try clear c30
                try clear p2
                obtain ⟨kq, x57_21, rfl, HA, HJ21, HO_5, HB⟩ := hcut
                have hl5_21 := (Kd.R_reads' HO_5.out).1
                rw [hl5_21] at HO_5
                (try simp only [hl5_21])
                cases kq with
                | zero => exact absurd HA.out (by simp [laws_FnExactShortestStuck.j1])
                | succ kj21 =>
                  have H := HA.out
                  clear HA
                  simp only [laws_FnExactShortestStuck.j1] at H
                  by_cases c32 : x57_21 = true
                  · subst c32
                    have H1 : (some false) = some r := by rw [if_pos rfl] at H; exact H
                    clear H
                    have H := H1
                    clear H1
                    obtain rfl := Option.some.inj H
                    go_wp2
                    go_ret
                    exact ⟨by first | rfl | (simp [errW_none, errW_some] <;> rfl) | (simp [*, errW_none, errW_some] <;> rfl), by repeat (first | (with_reducible first | exact HB.out | apply below_alloc | apply pw_below_drewN | apply below_drew1) | exact HB.out)⟩
                  · replace c32 := Bool.eq_false_iff.mpr c32
                    subst c32
                    have H1 : ((laws_heldIntS.f kj21 t153 1).bind fun t160 => (if t160 < 0 then (some false) else (if t160 = t152 then (some true) else (some false)))) = some r := by rw [if_neg (show ¬ (false = true) by decide)] at H; exact H
                    clear H
                    have H := H1
                    clear H1
                    replace H := Option.bind_eq_some_iff.mp H
                    obtain ⟨t160, A330, H⟩ := H
                    replace H : (if t160 < 0 then (some false) else (if t160 = t152 then (some true) else (some false))) = some r := H
                    have A33 := Aside0.mk A330
                    clear A330
                    by_cases c34 : t160 < 0
                    · rw [if_pos c34] at H
                      have c34b0 : decide (t160 < 0) = true := decide_eq_true c34
                      clear c34
                      obtain rfl := Option.some.inj H
                      go_wp2_with (first | ((with_reducible refine gate_callee (f := 28) rfl ?_); refine goesL_ (some 60) rfl rfl Tryd.func28 (by kernel_rfl) rfl #[.slice Ao23 t153.length co23, .int .i64 1] rfl (by (try simp only [List.map_toArray, List.map_cons, List.map_nil]); first | done | rfl | (simp only [List.length_drop, List.length_take]; rfl)) ?_; (with_reducible refine (laws_heldIntS.calls kj21 _ _ t153 1 t160 _ ?side1 ?side2 A33.out).mono ?_); (case side1 => repeat (first | exact (Kd.R_reads' HO_5.out).2.2 | (with_reducible refine Kd.C_alloc ?_ _) | (with_reducible refine Kd.C_drewN ?_ _) | (with_reducible refine Kd.C_drew ?_))); (case side2 => exact (Kd.R_reads' HO_5.out).2.1); rintro e w' ⟨rfl, ⟨nd, rfl⟩⟩; refine ⟨_, rfl, ?_⟩))
                      go_ret
                      exact ⟨by first | rfl | (simp [errW_none, errW_some] <;> rfl) | (simp [*, errW_none, errW_some] <;> rfl), by repeat (first | (with_reducible first | exact HB.out | apply below_alloc | apply pw_below_drewN | apply below_drew1) | exact HB.out)⟩
                    · rw [if_neg c34] at H
                      have c34b0 : decide (t160 < 0) = false := decide_eq_false c34
                      clear c34
                      by_cases c35 : t160 = t152
                      · rw [if_pos c35] at H
                        have c35b0 : (t160 == t152) = true := beq_iff_eq.mpr c35
                        have c35b1 : (t160 != t152) = false := bne_eq_false_iff_eq.mpr c35
                        clear c35
                        obtain rfl := Option.some.inj H
                        go_wp2_with (first | ((with_reducible refine gate_callee (f := 28) rfl ?_); refine goesL_ (some 60) rfl rfl Tryd.func28 (by kernel_rfl) rfl #[.slice Ao23 t153.length co23, .int .i64 1] rfl (by (try simp only [List.map_toArray, List.map_cons, List.map_nil]); first | done | rfl | (simp only [List.length_drop, List.length_take]; rfl)) ?_; (with_reducible refine (laws_heldIntS.calls kj21 _ _ t153 1 t160 _ ?side1 ?side2 A33.out).mono ?_); (case side1 => repeat (first | exact (Kd.R_reads' HO_5.out).2.2 | (with_reducible refine Kd.C_alloc ?_ _) | (with_reducible refine Kd.C_drewN ?_ _) | (with_reducible refine Kd.C_drew ?_))); (case side2 => exact (Kd.R_reads' HO_5.out).2.1); rintro e w' ⟨rfl, ⟨nd, rfl⟩⟩; refine ⟨_, rfl, ?_⟩))
                        go_ret
                        exact ⟨by first | rfl | (simp [errW_none, errW_some] <;> rfl) | (simp [*, errW_none, errW_some] <;> rfl), by repeat (first | (with_reducible first | exact HB.out | apply below_alloc | apply pw_below_drewN | apply below_drew1) | exact HB.out)⟩
                      · rw [if_neg c35] at H
                        have c35b0 : (t160 == t152) = false := beq_eq_false_iff_ne.mpr c35
                        have c35b1 : (t160 != t152) = true := bne_iff_ne.mpr c35
                        obtain rfl := Option.some.inj H
                        go_wp2_with (first | ((with_reducible refine gate_callee (f := 28) rfl ?_); refine goesL_ (some 60) rfl rfl Tryd.func28 (by kernel_rfl) rfl #[.slice Ao23 t153.length co23, .int .i64 1] rfl (by (try simp only [List.map_toArray, List.map_cons, List.map_nil]); first | done | rfl | (simp only [List.length_drop, List.length_take]; rfl)) ?_; (with_reducible refine (laws_heldIntS.calls kj21 _ _ t153 1 t160 _ ?side1 ?side2 A33.out).mono ?_); (case side1 => repeat (first | exact (Kd.R_reads' HO_5.out).2.2 | (with_reducible refine Kd.C_alloc ?_ _) | (with_reducible refine Kd.C_drewN ?_ _) | (with_reducible refine Kd.C_drew ?_))); (case side2 => exact (Kd.R_reads' HO_5.out).2.1); rintro e w' ⟨rfl, ⟨nd, rfl⟩⟩; refine ⟨_, rfl, ?_⟩))
                        go_ret
                        exact ⟨by first | rfl | (simp [errW_none, errW_some] <;> rfl) | (simp [*, errW_none, errW_some] <;> rfl), by repeat (first | (with_reducible first | exact HB.out | apply below_alloc | apply pw_below_drewN | apply below_drew1) | exact HB.out)⟩
            · rw [if_neg c20] at H
              have c20b0 : (t154 == t152) = false := beq_eq_false_iff_ne.mpr c20
              have c20b1 : (t154 != t152) = true := bne_iff_ne.mpr c20
              obtain rfl := Option.some.inj H
              obtain ⟨Ao36, co36, eo36⟩ := Kd.R_slice HO_5.out
              subst eo36
              go_wp2_with (first | ((with_reducible refine gate_callee (f := 27) rfl ?_); refine goesL_ (some 35) rfl rfl Tryd.func27 (by kernel_rfl) rfl #[.slice Ao36 t147.length co36, .int .i64 1] rfl (by (try simp only [List.map_toArray, List.map_cons, List.map_nil]); first | done | rfl | (simp only [List.length_drop, List.length_take]; rfl)) ?_; (with_reducible refine (laws_markIntS.calls kj4 (fun k_ => some k_ = (.slice Ao36 t147.length co36 : Value).ownBlock) (.slice Ao36 t147.length co36) t147 1 t152 t153 w _ ?side1 ?side2 A15.out).mono ?_); (case side1 => repeat (first | (with_reducible first | exact HB.out | apply below_alloc | apply pw_below_drewN | apply below_drew1) | exact HB.out)); (case side2 => exact Kd.R_tight rfl HO_5.out); rintro e w37 ⟨rfl, hy0, hb, hkp⟩; refine ⟨_, rfl, ?_⟩; have n0_ := Aside0.mk (Kd.R_mono (ok' := fun k_ => some k_ ≠ (.slice Ao36 t147.length co36 : Value).ownBlock) (Kd.R_keptB (HO_3.out) hkp (fun k_ hk_ hs_ => (hk_) hs_)) (fun k_ hk_ => hk_.1)); have n1_ := Aside0.mk (Kd.R_reok rfl hy0 (fun k_ e_ => HO_5.out.1 k_ e_)); have n2_ := Aside0.mk (hb); clear HO_3; clear HO_5; clear HB; have HO_3 := n0_; have HO_5 := n1_; have HB := n2_; clear n0_ n1_ n2_; (try clear hb); (try clear hkp); (try clear hy0)) | ((with_reducible refine gate_callee (f := 28) rfl ?_); refine goesL_ (some 38) rfl rfl Tryd.func28 (by kernel_rfl) rfl #[.slice Ao36 t153.length co36, .int .i64 1] rfl (by (try simp only [List.map_toArray, List.map_cons, List.map_nil]); first | done | (rw [show t153.length = t147.length from (Kd.R_reads' HO_5.out).1.symm] <;> rfl) | rfl | (simp only [List.length_drop, List.length_take]; rfl)) ?_; (with_reducible refine (laws_heldIntS.calls kj4 _ _ t153 1 t154 _ ?side1 ?side2 A16.out).mono ?_); (case side1 => repeat (first | exact (Kd.R_reads' HO_5.out).2.2 | (with_reducible refine Kd.C_alloc ?_ _) | (with_reducible refine Kd.C_drewN ?_ _) | (with_reducible refine Kd.C_drew ?_))); (case side2 => rw [show t153.length = t147.length from (Kd.R_reads' HO_5.out).1.symm]; exact (Kd.R_reads' HO_5.out).2.1); rintro e w' ⟨rfl, ⟨nd, rfl⟩⟩; refine ⟨_, rfl, ?_⟩))
              go_ret
              exact ⟨by first | rfl | (simp [errW_none, errW_some] <;> rfl) | (simp [*, errW_none, errW_some] <;> rfl), by repeat (first | (with_reducible first | exact HB.out | apply below_alloc | apply pw_below_drewN | apply below_drew1) | exact HB.out)⟩

/-- THE ONE PURE STATEMENT of laws_FnExactShortestStuck: yours. -/
def laws_FnExactShortestStuck.Pure : Prop := ∀ (a0 : ByteArray), a0.size ≤ 140737488351232 → ∃ k, laws_FnExactShortestStuck.f k a0 = some true
theorem laws_FnExactShortestStuck.walk (P : laws_FnExactShortestStuck.Pure) (a0 : ByteArray) (w : World) (w0 : a0.size ≤ 140737488351232) :
    Calls Tryd.prog 9 #[.string a0] w fun e w' => e = .returned (.bool true) ∧ Below w.heap.size w w' := by
  obtain ⟨k, h⟩ := P a0 w0
  refine (laws_FnExactShortestStuck.calls k a0 true w h).mono ?_
  rintro e w' ⟨rfl, hd⟩
  exact ⟨rfl, hd⟩

end Go.Proofs.YtkikpfeipejnlaaDoor.PFnExactShortestStuck
