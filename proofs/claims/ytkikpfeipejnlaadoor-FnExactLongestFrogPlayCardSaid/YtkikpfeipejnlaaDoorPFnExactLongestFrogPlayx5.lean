-- Printed by this session's eprint.py over the kit's print (with this session's own texts for some functions)
import Derived.Test.YtkikpfeipejnlaaDoorPFnExactLongestFrogPlayx0
import Derived.Test.YtkikpfeipejnlaaDoorPFnExactLongestFrogPlayx1
import Derived.Test.YtkikpfeipejnlaaDoorPFnExactLongestFrogPlayx2
import Derived.Test.YtkikpfeipejnlaaDoorPFnExactLongestFrogPlayx3
import Derived.Test.YtkikpfeipejnlaaDoorPFnExactLongestFrogPlayx4
namespace Go.Proofs.YtkikpfeipejnlaaDoor.PFnExactLongestFrogPlay
open Go.RowKit Go.Proofs.YtkikpfeipejnlaaDoorW.PrintWords Go.Proofs.YtkikpfeipejnlaaDoorW.PrintLast Go.Proofs.YtkikpfeipejnlaaDoorW.PrintMore
attribute [local go_sem] max2_int min2_int max_two min_two max_three min_three max_four min_four   -- for this text's walks alone
set_option linter.unusedVariables false
set_option linter.unusedSimpArgs false

/-! ### impl_mostOf: function 53 -/
def impl_mostOf.f (a0_0 : Int) (a0_1 : Int) (a0_2 : Int) : Option (Int) := some a0_1
set_option maxHeartbeats 8000000 in
set_option maxRecDepth 100000 in
theorem impl_mostOf.calls (a0_0 : Int) (a0_1 : Int) (a0_2 : Int) (r : Int) (w : World) (h : impl_mostOf.f a0_0 a0_1 a0_2 = some r) :
    Calls Tryd.prog 53 #[.agg #[.int .i64 a0_0, .int .i64 a0_1, .int .i64 a0_2]] w fun e w' => e = .returned (.int .i64 r) ∧ Below w.heap.size w w' := by
  have hu55 := Tryd.underlying55
  have HB := Aside0.mk (Below.refl w.heap.size w)
  have H : (some a0_1) = some r := h
  clear h
  obtain rfl := Option.some.inj H
  go_enter Tryd.func53, Tryd.ntmps53
  go_wp2_with (first | ((with_reducible refine gate_dst (N := 1) rfl ?_); refine box_event ?hg (N := 1) ?hd (cs := #[.int .i64 a0_0, .int .i64 a0_1, .int .i64 a0_2]) (t := 55) ?hr ?_; (case hd => rfl); (case hg => rfl); (case hr => first | (go_simp; done) | (go_simp; rfl)); intro gb132 hg w2 hbox hb; have n0_ := Aside0.mk (below_step (by repeat (first | (with_reducible first | exact HB.out | apply below_alloc | apply pw_below_drewN | apply below_drew1) | exact HB.out)) hb); have n1_ := Aside0.mk (hbox); have n2_ := Aside0.mk ((by rw [hg]; exact (below_size (by repeat (first | (with_reducible first | exact HB.out | apply below_alloc | apply pw_below_drewN | apply below_drew1) | exact HB.out))) : w.heap.size ≤ gb132)); have n3_ := Aside0.mk ((by rw [hg]; exact (below_size (by repeat (first | (with_reducible first | exact HB.out | apply below_alloc | apply pw_below_drewN | apply below_drew1) | exact HB.out))) : w.heap.size ≤ gb132)); clear HB; have HB := n0_; have BK132 := n1_; have GW132 := n2_; have GE132 := n3_; clear n0_ n1_ n2_ n3_; clear hb hbox hg; have hcz3_0 : w2.cell? ⟨gb132, 0, none⟩ = some (.int .i64 a0_0) := (blk_cell BK132.out 0).trans rfl; have hcz3_1 : w2.cell? ⟨gb132, 1, none⟩ = some (.int .i64 a0_1) := (blk_cell BK132.out 1).trans rfl; have hcz3_2 : w2.cell? ⟨gb132, 2, none⟩ = some (.int .i64 a0_2) := (blk_cell BK132.out 2).trans rfl; have hfz3_0 := blk_frozen BK132.out 0; have hfz3_1 := blk_frozen BK132.out 1; have hfz3_2 := blk_frozen BK132.out 2))
  go_ret
  exact ⟨by first | rfl | (simp [errW_none, errW_some] <;> rfl) | (simp [*, errW_none, errW_some] <;> rfl), by repeat (first | (with_reducible first | exact HB.out | apply below_alloc | apply pw_below_drewN | apply below_drew1 | refine below_set ?_ GE132.out) | exact HB.out)⟩

/-! ### impl_LongestFrogPlay: function 25 -/
def plMost (f : plF) : Int := f.2.1
def plLeast (f : plF) : Int := f.1
/-- The first move behind which so many moves are left, and the pond behind it. -/
def plFind (g : plM → ByteArray → Option (plF × plM)) (told : plF → Int) (s : ByteArray) (left : Nat) : List Int → plM → Option (Option (Int × ByteArray) × plM)
  | [], M => some (none, M)
  | m :: ms, M => (impl_hopped.f s m).bind fun t => (g M t).bind fun n => if 0 < n.1.2.2 ∧ told n.1 = (left : Int) then some (some (m, t), n.2) else plFind g told s left ms n.2
def plLoop (g : plM → ByteArray → Option (plF × plM)) (told : plF → Int) (k : Nat) : Nat → ByteArray → List Int → plM → Option (List Int)
  | 0, _, out, _ => some out
  | left + 1, s, out, M => (impl_hops.f k s).bind fun ms => if ms.length ≤ 1000 ∧ out.length ≤ 1000000 then (plFind g told s left ms M).bind fun r => match r.1 with
    | some mt => plLoop g told k left mt.2 (out ++ [mt.1]) r.2
    | none => plLoop g told k left s out r.2 else none
/-- What the method 'first' answers. -/
def plFst (E : ByteArray → Option Bool) (told : plF → Int) (k d : Nat) (M : plM) (s : ByteArray) : Option (List Int) := (plOf E k d M s).bind fun f => if told f.1 ≤ 1000000 then plLoop (plOf E k d) told k (told f.1).toNat s [] f.2 else none
def plOut (W : World) (base : Nat) (v : Value) (xs : List Int) : Prop := W.ownsRow base 3 1 v xs.length (xs.map (Value.int .i64))
theorem plOut.form {b0 : Nat} {W : World} {v : Value} {l : List Int} (h : plOut W b0 v l) : (l = [] ∧ v = .slice none 0 0) ∨ ∃ g c cur, v = .slice (some ⟨g, 0, none⟩) l.length c ∧ b0 ≤ g ∧ W.heap[g]? = some (.cells cur 3 (0, 0)) := by
  rcases h.2 with ⟨h1, h2⟩ | ⟨g, c, cur, h1, h2, h3, _⟩
  · exact .inl ⟨List.length_eq_zero_iff.1 h2, h1⟩
  · exact .inr ⟨g, c, cur, h1, h2, h3⟩
theorem plOut.kept {W W' : World} {b B : Nat} {v : Value} {xs : List Int} (h : plOut W b v xs) (hg : W.grownBy W' (some B)) (hB : B < b) : plOut W' b v xs := by
  refine World.ownsRow.kept h hg ?_
  rcases plOut.form h with ⟨_, e⟩ | ⟨g, c, cur, e, hb, _⟩
  · subst e; exact .inl rfl
  · subst e; exact .inr (by intro e; simp only [Value.ownBlock, Option.some.injEq] at e; omega)
theorem plOut.nil {W : World} {base b : Nat} (hb : base ≤ b) (hc : W.heap[b]? = some (.cells #[] 3 (0, 0))) : plOut W base (.slice (some ⟨b, 0, none⟩) 0 0) [] :=
  ⟨rfl, .inr ⟨b, 0, #[], rfl, hb, hc, Nat.le_refl _, by decide, rfl, rfl⟩⟩
/-- The blocks of a call of 'first'. -/
structure plF1 (W : World) (B : Nat) (fv : Value) (W' : World) : Prop where
  g : W.grownBy W' (some B)
  p : W'.heap[W.heap.size]? = some (.cells #[fv, .map (some B)] 51 (0, 0))
theorem plF1.kept {W W1 W2 : World} {B : Nat} {fv : Value} (h : plF1 W B fv W1) (hB : B < W.heap.size) (hg : W1.grownBy W2 (some B)) : plF1 W B fv W2 :=
  ⟨h.g.trans hg, blk_grown h.p hg (by intro e; injection e with e; omega)⟩
theorem plGr {W W1 W2 : World} {B : Nat} {row : Option Nat} (h : W.grownBy W1 (some B)) (hg : W1.grownBy W2 row) (hr : ∀ k, row = some k → W.heap.size ≤ k) : W.grownBy W2 (some B) :=
  ⟨hg.os.trans h.os, hg.tape.trans h.tape, hg.output.trans h.output, Nat.le_trans h.size hg.size, fun k hk hne => (hg.block k (Nat.lt_of_lt_of_le hk h.size) (fun e => by have := hr k e.symm; omega)).trans (h.block k hk hne)⟩
theorem plF1.row {W W1 W2 : World} {B : Nat} {fv v : Value} {xs : List Int} (h : plF1 W B fv W1) (ho : plOut W1 W.heap.size v xs) (hg : W1.grownBy W2 v.ownBlock) : plF1 W B fv W2 := by
  have hk : ∀ k, v.ownBlock = some k → W.heap.size ≤ k ∧ k ≠ W.heap.size := by
    intro k hk
    rcases plOut.form ho with ⟨_, e⟩ | ⟨g, c, cur, e, hb, hc⟩
    · subst e; simp [Value.ownBlock] at hk
    · subst e
      simp only [Value.ownBlock, Option.some.injEq] at hk
      subst hk
      exact ⟨hb, fun e => by subst e; have := blk_ne hc h.p (by decide); exact this rfl⟩
  exact ⟨plGr h.g hg (fun k e => (hk k e).1), blk_grown h.p hg (fun e => (hk _ e.symm).2 rfl)⟩
theorem plMem.row {W1 W2 : World} {B b : Nat} {M : plM} {v : Value} {xs : List Int} (h : plMem W1 B M) (ho : plOut W1 b v xs) (hg : W1.grownBy W2 v.ownBlock) : plMem W2 B M := by
  refine h.kept hg ?_
  rcases plOut.form ho with ⟨_, e⟩ | ⟨g, c, cur, e, hb, hc⟩
  · subst e; simp [Value.ownBlock]
  · subst e
    simp only [Value.ownBlock, ne_eq, Option.some.injEq]
    exact h.ne hc
theorem plNews (w : World) (m : Int) : ∀ (j : Nat) (u : Value), [Value.int .i64 m][j]? = some u → (w.alloc (.cells #[.int .i64 m] 3)).cell? ((⟨w.heap.size, 0, none⟩ : Addr).add j) = some u := by
  intro j u hj
  match j, hj with
  | 0, hj =>
    obtain rfl := Option.some.inj (show some _ = some u from hj)
    exact (blk_cell (blk_new w (.cells #[.int .i64 m] 3)) 0)
theorem plOne (m : Int) : ∀ u ∈ [Value.int .i64 m], u.oneCell' = true := by
  intro u hu
  simp only [List.mem_singleton] at hu
  subst hu; rfl
theorem plOut.snoc {w : World} {base : Nat} {v : Value} {xs : List Int} {m : Int} (h : w.ownsRow base 3 1 v (xs.length + 1) (xs.map (Value.int .i64) ++ [.int .i64 m])) : plOut w base v (xs ++ [m]) := by
  unfold plOut
  rw [List.length_append, List.map_append]
  exact h
theorem plOut.toR {W : World} {b b' : Nat} {v : Value} {xs : List Int} (h : plOut W b v xs) (hb : b' ≤ b) : Kd.R (Kd.int .i64) 3 W b' (fun _ => True) v xs := by
  refine Kd.R_of_own ⟨h.1, ?_⟩ (fun _ _ => trivial)
  rcases h.2 with h | ⟨g, cap, cur, h1, h2, h3⟩
  · exact .inl h
  · exact .inr ⟨g, cap, cur, h1, Nat.le_trans hb h2, h3⟩
theorem plFind_le {g g' : plM → ByteArray → Option (plF × plM)} (h : ∀ M t, LeO (g M t) (g' M t)) (told : plF → Int) (s : ByteArray) (left : Nat) : ∀ (ms : List Int) (M : plM), LeO (plFind g told s left ms M) (plFind g' told s left ms M)
  | [], _ => LeO.refl _
  | _ :: ms, _ => LeO.bind (LeO.refl _) (fun _ => LeO.bind (h _ _) (fun _ => LeO.ite (LeO.refl _) (plFind_le h told s left ms _)))
theorem plLoop_le {g g' : plM → ByteArray → Option (plF × plM)} (h : ∀ M t, LeO (g M t) (g' M t)) (told : plF → Int) (k : Nat) : ∀ (left : Nat) (s : ByteArray) (out : List Int) (M : plM), LeO (plLoop g told k left s out M) (plLoop g' told (k + 1) left s out M)
  | 0, _, _, _ => LeO.refl _
  | left + 1, s, out, M => by
    simp only [plLoop]
    refine LeO.bind (impl_hops.mono s k) (fun _ => LeO.ite (LeO.bind (plFind_le h told s left _ _) (fun r => ?_)) (LeO.refl _))
    obtain ⟨r1, r2⟩ := r
    cases r1 with
    | none => exact plLoop_le h told k left _ _ _
    | some mt => exact plLoop_le h told k left _ _ _
theorem plFst_le {E E' : ByteArray → Option Bool} (told : plF → Int) (k d : Nat) (hE : ∀ s, LeO (E s) (E' s)) (M : plM) (s : ByteArray) : LeO (plFst E told k d M s) (plFst E' told (k + 1) (d + 1) M s) :=
  LeO.bind (plOf_le k hE d M s) (fun _ => LeO.ite (plLoop_le (fun M t => plOf_le k hE d M t) told k _ _ _ _) (LeO.refl _))
theorem plStuck (k : Nat) : plEnd (impl_isStuck.f k) 40 #[] (fun _ => True) :=
  ⟨fun W s b _ h => impl_isStuck.calls k s b W h, fun _ _ _ _ _ _ _ => trivial⟩
set_option maxHeartbeats 8000000 in
theorem plTo_walk (F : Nat) (caps : Array Value) (W : World) :
    Calls Tryd.prog 51 #[.func (.func F) #[] caps] W fun e W' => ∃ B, e = .returned (.agg #[.func (.func F) #[] caps, .map (some B)]) ∧ W.heap.size ≤ B ∧ plMem W' B [] ∧ Below W.heap.size W W' := by
  have hmm := @run_makeMap Tryd.prog
  go_enter Tryd.func51, Tryd.ntmps51
  go_wp2
  have hm := World.ownsMap_made (H := Unit) (W.alloc (.cells #[.func (.func F) #[] caps, .map (some (W.heap.size + 1))] 51)) Tryd.prog 9 plR
  rw [show (W.alloc (.cells #[.func (.func F) #[] caps, .map (some (W.heap.size + 1))] 51)).heap.size = W.heap.size + 1 from by simp] at hm
  exact bodyPost_ret (v := .agg #[.func (.func F) #[] caps, .map (some (W.heap.size + 1))]) (by simp [results, Tryd.results51, go_sem]) rfl ⟨W.heap.size + 1, rfl, by omega, hm, below_alloc (below_alloc (Below.refl _ _) _) _⟩
set_option maxHeartbeats 8000000 in
set_option maxRecDepth 100000 in
theorem plFst_walkSM: ∀ (E : ByteArray → Option Bool) (Env : World → Prop) (hE : plEnd E 40 #[] Env) (k B d : Nat) (M : plM) (s : ByteArray) (out : List Int) (W : World), plFst E plMost k d M s = some out → plMem W B M → Env W →
    Calls Tryd.prog 52 #[.agg #[.func (.func 40) #[] #[], .map (some B)], .string s, .func (.func 53) #[] #[]] W fun e W' => ∃ v, e = .returned v ∧ plOut W' W.heap.size v out ∧ W.grownBy W' (some B) := by
  intro E Env hE k B d M s out W h hM hEnv
  obtain ⟨⟨f, M1⟩, hf, h⟩ := Option.bind_eq_some_iff.mp h
  dsimp only at h
  by_cases hl : plMost f ≤ 1000000
  case neg => rw [if_neg hl] at h; cases h
  rw [if_pos hl] at h
  obtain ⟨tf, htf⟩ : ∃ tf : Int, plMost f = tf := ⟨_, rfl⟩
  rw [htf] at h hl
  have HM := Aside0.mk hM
  have HEnv := Aside0.mk hEnv
  have HF := Aside0.mk hf
  have HT := Aside0.mk htf
  have HL := Aside0.mk hl
  have HH := Aside0.mk h
  clear hM hEnv hf htf hl h
  have HBW := Aside0.mk HM.out.lt
  have hB2 : Below W.heap.size W ((W.alloc (.cells #[.func (.func 40) #[] #[], .map (some B)] 51)).alloc (.cells #[] 3)) := below_alloc (below_alloc (Below.refl _ _) _) _
  have HF1 := Aside0.mk (show plF1 W B (.func (.func 40) #[] #[]) ((W.alloc (.cells #[.func (.func 40) #[] #[], .map (some B)] 51)).alloc (.cells #[] 3)) from ⟨plGrown hB2 _, (Below.heap_alloc _ _ _ (by simp)).trans (blk_new W _)⟩)
  have HM1 := Aside0.mk (HM.out.below hB2)
  have HE1 := Aside0.mk (hE.kept _ _ B M HEnv.out HM.out (plGrown hB2 _))
  have HO1 := Aside0.mk (show plOut ((W.alloc (.cells #[.func (.func 40) #[] #[], .map (some B)] 51)).alloc (.cells #[] 3)) W.heap.size (.slice (some ⟨W.heap.size + 1, 0, none⟩) 0 0) [] from plOut.nil (by omega) (by have := blk_new (W.alloc (.cells #[.func (.func 40) #[] #[], .map (some B)] 51)) (.cells #[] 3); rw [show (W.alloc (.cells #[.func (.func 40) #[] #[], .map (some B)] 51)).heap.size = W.heap.size + 1 from by simp] at this; exact this))
  clear hB2
  go_enter Tryd.func52, Tryd.ntmps52
  go_wp2_with (first | (go_at_call 48; (refine (plOf_walkS E Env hE k B d M M1 s f _ HF.out HM1.out HE1.out).mono ?_); rintro e w3 ⟨rfl, hm3, hg3⟩; have HM3 := Aside0.mk hm3; have HF3 := Aside0.mk (HF1.out.kept HBW.out hg3); have HO3 := Aside0.mk (HO1.out.kept hg3 HBW.out); clear hm3 hg3) | (go_at_call 53; (refine (impl_mostOf.calls f.1 f.2.1 f.2.2 tf _ (by rw [← HT.out]; rfl)).mono ?_); rintro e w4 ⟨rfl, hb4⟩; have HM4 := Aside0.mk (HM3.out.below hb4); have HF4 := Aside0.mk (HF3.out.kept HBW.out (plGrown hb4 _)); have HO4 := Aside0.mk (HO3.out.kept (plGrown hb4 _) HBW.out); clear hb4))
  go_loopg [1, 7, 8] tf.toNat (fun kq v1 v7 v8 w' => ∃ (s1 : ByteArray) (vo : Value) (o1 : List Int) (M2 : plM) (lf : Int), v1 = .string s1 ∧ v7 = vo ∧ v8 = .int .i64 lf ∧ Aside0 (kq = lf.toNat) ∧ Aside0 (lf ≤ 1000000) ∧ Aside0 (plLoop (plOf E k d) plMost k kq s1 o1 M2 = some out) ∧ Aside0 (plF1 W B (.func (.func 40) #[] #[]) w') ∧ Aside0 (plMem w' B M2) ∧ Aside0 (plOut w' W.heap.size vo o1))
  case atStart => exact ⟨s, _, [], M1, tf, rfl, rfl, rfl, ⟨rfl⟩, HL, HH, HF4, HM4, HO4⟩
  case round =>
    obtain ⟨s1, vo, o1, M2, lf, rfl, e7, rfl, HK, HLL, HLO, HFR, HMM, HOO⟩ := hrel
    obtain rfl : vo = u7 := e7.symm
    cases gk with
    | zero =>
      have c0 : decide (0 < lf) = false := decide_eq_false (by have := HK.out; omega)
      have ho := HLO.out
      simp only [plLoop, Option.some.injEq] at ho
      obtain rfl := ho
      go_wp2
      go_ret
      exact ⟨_, rfl, HOO.out, HFR.out.g⟩
    | succ k1 =>
      have c0 : decide (0 < lf) = true := decide_eq_true (by have := HK.out; omega)
      have ho := HLO.out
      simp only [plLoop] at ho
      obtain ⟨ms, hms, ho⟩ := Option.bind_eq_some_iff.mp ho
      by_cases hlen : ms.length ≤ 1000 ∧ o1.length ≤ 1000000
      case neg => rw [if_neg hlen] at ho; cases ho
      rw [if_pos hlen] at ho
      obtain ⟨⟨res, M3⟩, hfd, ho⟩ := Option.bind_eq_some_iff.mp ho
      have HMS := Aside0.mk hms
      have HLEN := Aside0.mk hlen
      have HFD := Aside0.mk hfd
      have HLP := Aside0.mk ho
      clear hms hlen hfd ho
      go_wp2_with (go_at_call 62; (refine (impl_hops.calls k s1 ms _ HMS.out).mono ?_); rintro e w6 ⟨v6, rfl, hR, hb6⟩; have HF6 := Aside0.mk (HFR.out.kept HBW.out (plGrown hb6 _)); have HM6 := Aside0.mk (HMM.out.below hb6); have HO6 := Aside0.mk (HOO.out.kept (plGrown hb6 _) HBW.out); have hrow := (plRow.ofR hR).lower (b' := W.heap.size) HFR.out.g.size; obtain ⟨A6, c6, rfl⟩ := hrow.form; have HRW6 := Aside0.mk hrow; clear hrow hR hb6)
      go_loopg [1, 7, 25] ms.length (fun kq v1 v7 v25 w' => ∃ (i : Int) (M4 : plM), v1 = .string s1 ∧ v7 = vo ∧ v25 = .int .i64 i ∧ Aside0 (i = (ms.length : Int) - (kq : Int)) ∧ Aside0 (kq ≤ ms.length) ∧ Aside0 (plFind (plOf E k d) plMost s1 k1 (ms.drop (ms.length - kq)) M4 = some (res, M3)) ∧ Aside0 (plF1 W B (.func (.func 40) #[] #[]) w') ∧ Aside0 (plMem w' B M4) ∧ Aside0 (plOut w' W.heap.size vo o1) ∧ Aside0 (plRow w' W.heap.size (.slice A6 ms.length c6) ms))
      case atStart => exact ⟨0, M2, rfl, rfl, rfl, ⟨by omega⟩, ⟨Nat.le_refl _⟩, ⟨by rw [Nat.sub_self]; exact HFD.out⟩, HF6, HM6, HO6, HRW6⟩
      case round =>
        obtain ⟨i, M4, rfl, e7, rfl, HI, HKi, HFi0, HFi, HMi, HOi, HRi⟩ := hrel
        obtain rfl : vo = u7 := e7.symm
        cases gk with
        | zero =>
          have c1 : decide (i < (ms.length : Int)) = false := decide_eq_false (by have := HI.out; omega)
          have hfi : plFind (plOf E k d) plMost s1 k1 (ms.drop (ms.length - 0)) M4 = some (res, M3) := HFi0.out
          rw [Nat.sub_zero, List.drop_length] at hfi
          simp only [plFind, Option.some.injEq, Prod.mk.injEq] at hfi
          obtain ⟨rfl, rfl⟩ := hfi
          have HNX := Aside0.mk (show plLoop (plOf E k d) plMost k k1 s1 o1 M4 = some out from HLP.out)
          have wl : wrap64 (lf - 1) = lf - 1 := by have := HLL.out; have := HK.out; unfold wrap64; omega
          have wl' : IntKind.i64.wrap (lf - 1) = lf - 1 := (i64_w _).trans wl
          go_wp2
          go_roundg k1
          case measure => omega
          case rel => exact ⟨s1, vo, o1, M4, lf - 1, rfl, rfl, rfl, ⟨by have := HK.out; omega⟩, ⟨by have := HLL.out; omega⟩, HNX, HFi, HMi, HOi⟩
        | succ j1 =>
          have c1 : decide (i < (ms.length : Int)) = true := decide_eq_true (by have := HI.out; omega)
          have hi0 : 0 ≤ i := by have := HI.out; have := HKi.out; omega
          have hi1 : i < (ms.length : Int) := by have := HI.out; omega
          have hrn := HFi0.out
          rw [plDrop ms _ (show ms.length - (j1 + 1) < ms.length by have := HKi.out; omega), show (((ms.length - (j1 + 1) : Nat) : Nat) : Int) = i by have := HI.out; have := HKi.out; omega] at hrn
          simp only [plFind] at hrn
          obtain ⟨t, ht, hrn⟩ := Option.bind_eq_some_iff.mp hrn
          obtain ⟨⟨n, M5⟩, hn, hrn⟩ := Option.bind_eq_some_iff.mp hrn
          dsimp only at hrn
          rw [show ms.length - (j1 + 1) + 1 = ms.length - j1 by have := HKi.out; omega] at hrn
          obtain ⟨m, hm⟩ : ∃ m : Int, rd ms i = m := ⟨_, rfl⟩
          rw [hm] at ht hrn
          obtain ⟨g, arr, hgb, hA, hcs, harr⟩ : ∃ (g : Nat) (arr : Array Value), W.heap.size ≤ g ∧ A6 = some ⟨g, 0, none⟩ ∧ wr.heap[g]? = some (.cells arr 3 (0, 0)) ∧ ∀ j, j < ms.length → arr[j]? = some (.int .i64 (rd ms (j : Int))) := by
            obtain ⟨A, c, hv, h⟩ := HRi.out
            rcases h with h | h
            · rw [h] at hi1; simp at hi1; omega
            · injection hv with e1 e2 e3; rw [e1]; exact h
          subst hA
          have hcell : wr.cell? ⟨g, i.toNat, none⟩ = some (.int .i64 m) := by
            rw [blk_cell hcs, harr i.toNat (by omega), show ((i.toNat : Nat) : Int) = i by omega, hm]
          have HT2 := HT
          clear HT
          have HT := Aside0.mk ht
          have HN := Aside0.mk hn
          have HRN2 := Aside0.mk hrn
          have HIB := Aside0.mk (show 0 ≤ i ∧ i < (ms.length : Int) from ⟨hi0, hi1⟩)
          clear ht hn hrn hm hcs harr hgb
          go_wp2
          refine region_inv (J := fun L a Wc => ∃ v33 v34 v35 v36 v37 v10 : Value, a = { tmps := #[Value.agg #[Value.func (Fn.func 40) #[] #[], Value.map (some B)], Value.string s1, Value.func (Fn.func 53) #[] #[], Value.pointer (some { block := W.heap.size, off := 0 }), undef, undef, Value.slice none 0 0, vo, Value.int IntKind.i64 lf, undef, Value.int IntKind.i64 m, v10, Value.slice (some { block := W.heap.size + 1, off := 0 }) 0 0, Value.func (Fn.func 53) #[] #[], Value.agg #[Value.func (Fn.func 40) #[] #[], Value.map (some B)], Value.string s, plV f, Value.int IntKind.i64 tf, Value.int IntKind.i64 lf, Value.bool true, u20, u21, Value.string s1, Value.slice (some { block := g, off := 0 }) ms.length c6, Value.int IntKind.i64 (ms.length : Int), Value.int IntKind.i64 i, Value.bool true, Value.pointer (some { block := g, off := i.toNat }), Value.int IntKind.i64 m, v33, v34, v35, v36, v37, u34, u35, u36, u37, u38, u39, u40, u41, u42, u43, u44, u45, u46, u47, u48, u49, u50, u51, u52, undef], defers := [] } ∧ plRS wr B (.func (.func 40) #[] #[]) s1 t m n M4 M5 L v33 v34 v35 v36 v37 v10 Wc) (by kernel_rfl) (by kernel_rfl) ?start8 ?step8 ?fin8
          case start8 => exact ⟨_, _, _, _, _, _, rfl, ⟨plGrown (below_drew1 (Below.refl _ _)) _, by simpa using HMi.out.below (below_drew1 (Below.refl _ _)), nofun, nofun, nofun, nofun, nofun, nofun, nofun⟩⟩
          case step8 =>
            rintro L a Wc j o ho hL hp ⟨v33, v34, v35, v36, v37, v10, rfl, H⟩
            have hj : j < 7 := (Array.getElem?_eq_some_iff.1 ho).1
            rcases (show j = 0 ∨ j = 1 ∨ j = 2 ∨ j = 3 ∨ j = 4 ∨ j = 5 ∨ j = 6 by omega) with rfl | rfl | rfl | rfl | rfl | rfl | rfl
            all_goals (obtain rfl : _ = o := Option.some.inj (show some _ = some o from ho); simp [Region.binds] at hp; refine plOp_of rfl (fun K hK => ?_))
            · -- operation 0
              obtain ⟨p0, p1⟩ := (show Wc.cell? ⟨W.heap.size, 0, none⟩ = some (.func (.func 40) #[] #[]) ∧ Wc.cell? ⟨W.heap.size, 1, none⟩ = some (.map (some B)) from ⟨by rw [blk_cell (HFi.out.kept HBW.out H.g).p]; rfl, by rw [blk_cell (HFi.out.kept HBW.out H.g).p]; rfl⟩)
              go_simp
              refine Or.inl ?_
              have H1 := H
              refine hK _ _ ⟨_, v34, v35, v36, v37, v10, rfl, ⟨?_, ?_, ?_, ?_, ?_, ?_, ?_, ?_, ?_⟩⟩
              · exact H1.g
              · exact by simpa using H1.mem
              · exact fun _ => rfl
              · exact fun hl => H1.h1 (by simpa using hl)
              · exact fun hl => H1.h2 (by simpa using hl)
              · exact fun hl => H1.h3 (by simpa using hl)
              · exact fun hl => H1.h4 (by simpa using hl)
              · exact fun hl => by obtain ⟨b, q, e, x1, x2, x3⟩ := H1.h5 (by simpa using hl); exact ⟨b, q, e, x1, x2, fun h6 => x3 (by simpa using h6)⟩
              · exact fun hl => by have := H1.o6 (by simpa using hl); simp [this]
            · -- operation 1
              go_simp
              refine Or.inl ?_
              have H1 := H
              refine hK _ _ ⟨v33, _, v35, v36, v37, v10, rfl, ⟨?_, ?_, ?_, ?_, ?_, ?_, ?_, ?_, ?_⟩⟩
              · exact H1.g
              · exact by simpa using H1.mem
              · exact fun hl => H1.h0 (by simpa using hl)
              · exact fun _ => rfl
              · exact fun hl => H1.h2 (by simpa using hl)
              · exact fun hl => H1.h3 (by simpa using hl)
              · exact fun hl => H1.h4 (by simpa using hl)
              · exact fun hl => by obtain ⟨b, q, e, x1, x2, x3⟩ := H1.h5 (by simpa using hl); exact ⟨b, q, e, x1, x2, fun h6 => x3 (by simpa using h6)⟩
              · exact fun hl => by have := H1.o6 (by simpa using hl); simp [this]
            · -- operation 2
              go_simp
              refine Or.inl ?_
              have H1 := H
              refine hK _ _ ⟨v33, v34, _, v36, v37, v10, rfl, ⟨?_, ?_, ?_, ?_, ?_, ?_, ?_, ?_, ?_⟩⟩
              · exact H1.g
              · exact by simpa using H1.mem
              · exact fun hl => H1.h0 (by simpa using hl)
              · exact fun hl => H1.h1 (by simpa using hl)
              · exact fun _ => rfl
              · exact fun hl => H1.h3 (by simpa using hl)
              · exact fun hl => H1.h4 (by simpa using hl)
              · exact fun hl => by obtain ⟨b, q, e, x1, x2, x3⟩ := H1.h5 (by simpa using hl); exact ⟨b, q, e, x1, x2, fun h6 => x3 (by simpa using h6)⟩
              · exact fun hl => by have := H1.o6 (by simpa using hl); simp [this]
            · -- operation 3
              have y1 : L 1 = true := by simp [hp]
              have y2 : L 2 = true := by simp [hp]
              obtain rfl := H.h1 y1
              obtain rfl := H.h2 y2
              go_simp
              refine Or.inl ?_
              refine (impl_hopped.calls s1 m t _ HT.out).mono ?_
              rintro e w' ⟨rfl, hbw⟩
              have H1 := H.below hbw
              refine hK _ _ ⟨v33, _, _, _, v37, v10, rfl, ⟨?_, ?_, ?_, ?_, ?_, ?_, ?_, ?_, ?_⟩⟩
              · exact H1.g
              · exact by simpa using H1.mem
              · exact fun hl => H1.h0 (by simpa using hl)
              · exact fun hl => H1.h1 (by simpa using hl)
              · exact fun hl => H1.h2 (by simpa using hl)
              · exact fun _ => rfl
              · exact fun hl => H1.h4 (by simpa using hl)
              · exact fun hl => by obtain ⟨b, q, e, x1, x2, x3⟩ := H1.h5 (by simpa using hl); exact ⟨b, q, e, x1, x2, fun h6 => x3 (by simpa using h6)⟩
              · exact fun hl => by have := H1.o6 (by simpa using hl); simp [this]
            · -- operation 4
              have y0 : L 0 = true := by simp [hp]
              have y3 : L 3 = true := by simp [hp]
              obtain rfl := H.h0 y0
              obtain rfl := H.h3 y3
              have hm := H.mem
              rw [if_neg (by simp [hL])] at hm
              go_simp
              refine Or.inl ?_
              refine (plOf_walkS E Env hE k B d M4 M5 t n Wc HN.out hm (hE.kept _ _ B M HEnv.out HM.out (HFi.out.g.trans H.g))).mono ?_
              rintro e w' ⟨rfl, hm3, hg3⟩
              have H1 := H
              refine hK _ _ ⟨_, v34, v35, _, _, v10, rfl, ⟨?_, ?_, ?_, ?_, ?_, ?_, ?_, ?_, ?_⟩⟩
              · exact H1.g.trans hg3
              · exact by simpa using hm3
              · exact fun hl => H1.h0 (by simpa using hl)
              · exact fun hl => H1.h1 (by simpa using hl)
              · exact fun hl => H1.h2 (by simpa using hl)
              · exact fun hl => H1.h3 (by simpa using hl)
              · exact fun _ => rfl
              · exact fun hl => by obtain ⟨b, q, e, x1, x2, x3⟩ := H1.h5 (by simpa using hl); exact ⟨b, q, e, x1, blk_grown x2 hg3 (by intro e; injection e with e; have := HBW.out; have := HFi.out.g.size; omega), fun h6 => x3 (by simpa using h6)⟩
              · exact fun hl => by have := H1.o6 (by simpa using hl); simp [this]
            · -- operation 5
              go_simp
              refine Or.inl ?_
              have H1 := H.below (below_alloc (Below.refl _ _) (Obj.cells #[.int .i64 0, .int .i64 0, .int .i64 0] 55))
              refine hK _ _ ⟨v33, v34, v35, v36, v37, _, rfl, ⟨?_, ?_, ?_, ?_, ?_, ?_, ?_, ?_, ?_⟩⟩
              · exact H1.g
              · exact by simpa using H1.mem
              · exact fun hl => H1.h0 (by simpa using hl)
              · exact fun hl => H1.h1 (by simpa using hl)
              · exact fun hl => H1.h2 (by simpa using hl)
              · exact fun hl => H1.h3 (by simpa using hl)
              · exact fun hl => H1.h4 (by simpa using hl)
              · exact fun _ => ⟨Wc.heap.size, (0, 0, 0), rfl, H.g.size, blk_new Wc _, fun h6 => absurd (H.o6 (by simpa using h6)).2 (by simp [hL])⟩
              · exact fun hl => by have := H1.o6 (by simpa using hl); simp [this]
            · -- operation 6
              have y4 : L 4 = true := by simp [hp]
              have y5 : L 5 = true := by simp [hp]
              obtain rfl := H.h4 y4
              obtain ⟨b, q, rfl, x1, x2, x3⟩ := H.h5 y5
              have d0 : Wc.cell? ⟨b, 0, none⟩ = some (.int .i64 q.1) := by rw [blk_cell x2]; rfl
              have d1 : Wc.cell? ⟨b, 1, none⟩ = some (.int .i64 q.2.1) := by rw [blk_cell x2]; rfl
              have d2 : Wc.cell? ⟨b, 2, none⟩ = some (.int .i64 q.2.2) := by rw [blk_cell x2]; rfl
              have g0 := blk_frozen x2 0
              have g1 := blk_frozen x2 1
              have g2 := blk_frozen x2 2
              have hBb : B ≠ b := by have := HBW.out; have := HFi.out.g.size; omega
              go_simp
              refine Or.inl ?_
              have H1 := H
              refine hK _ _ ⟨v33, v34, v35, v36, _, _, rfl, ⟨?_, ?_, ?_, ?_, ?_, ?_, ?_, ?_, ?_⟩⟩
              · exact plSet (plSet (plSet H1.g x1 _) x1 _) x1 _
              · exact by have := H1.mem; simpa using ((this.set hBb _).set hBb _).set hBb _
              · exact fun hl => H1.h0 (by simpa using hl)
              · exact fun hl => H1.h1 (by simpa using hl)
              · exact fun hl => H1.h2 (by simpa using hl)
              · exact fun hl => H1.h3 (by simpa using hl)
              · exact fun _ => rfl
              · exact fun _ => ⟨b, n, rfl, x1, blk_put (blk_put (blk_put x2 0 _ rfl) 1 _ rfl) 2 _ rfl, fun _ => rfl⟩
              · exact fun _ => by simp [hp]
          case fin8 =>
            rintro L a Wc hall ⟨v33, v34, v35, v36, v37, v10, rfl, H⟩
            obtain ⟨b, q, rfl, x1, x2, x3⟩ := H.h5 (hall 5 (by decide))
            obtain rfl := x3 (hall 6 (by decide))
            obtain rfl := H.h4 (hall 4 (by decide))
            have hm3 := H.mem
            rw [if_pos (hall 4 (by decide))] at hm3
            have hg3 := H.g
            clear H hall x3
            obtain ⟨n1, n2, n3⟩ := q
            have HFc := Aside0.mk (HFi.out.kept HBW.out hg3)
            have HMc := Aside0.mk hm3
            have HOc := Aside0.mk (HOi.out.kept hg3 HBW.out)
            have HRc := Aside0.mk (HRi.out.kept hg3 HBW.out)
            have d0 : Wc.cell? ⟨b, 0, none⟩ = some (.int .i64 n1) := by rw [blk_cell x2]; rfl
            have d1 : Wc.cell? ⟨b, 1, none⟩ = some (.int .i64 n2) := by rw [blk_cell x2]; rfl
            have d2 : Wc.cell? ⟨b, 2, none⟩ = some (.int .i64 n3) := by rw [blk_cell x2]; rfl
            have wi : wrap64 (i + 1) = i + 1 := by have := HIB.out; have := HLEN.out.1; unfold wrap64; omega
            have wi' : IntKind.i64.wrap (i + 1) = i + 1 := (i64_w _).trans wi
            have wl : wrap64 (lf - 1) = lf - 1 := by have := HLL.out; have := HK.out; unfold wrap64; omega
            have wl' : IntKind.i64.wrap (lf - 1) = lf - 1 := (i64_w _).trans wl
            have hrn2 := HRN2.out
            dsimp only at hrn2
            clear x1 x2 hg3 hm3
            by_cases hz : 0 < n3
            · have z1 : decide (0 < n3) = true := decide_eq_true hz
              obtain ⟨tn, htn⟩ : ∃ tn : Int, plMost (n1, n2, n3) = tn := ⟨_, rfl⟩
              rw [htn] at hrn2
              have HTN := Aside0.mk htn
              clear htn
              by_cases he : tn = (k1 : Int)
              · rw [if_pos ⟨hz, he⟩] at hrn2
                simp only [Option.some.injEq, Prod.mk.injEq] at hrn2
                obtain ⟨rfl, rfl⟩ := hrn2
                have z2 : (tn == lf - 1) = true := beq_iff_eq.2 (by have := HK.out; omega)
                have HNX := Aside0.mk (show plLoop (plOf E k d) plMost k k1 t (o1 ++ [m]) M5 = some out from HLP.out)
                obtain ⟨ii, hii, hij⟩ := Option.map_eq_some_iff.1 info3
                simp only [Prod.mk.injEq] at hij
                have HII := Aside0.mk hii
                have HIJ := Aside0.mk hij
                clear hz he hii hij
                go_wp2_with (first | (go_at_call 53; (refine (impl_mostOf.calls n1 n2 n3 tn _ (by rw [← HTN.out]; rfl)).mono ?_); rintro e w8 ⟨rfl, hb8⟩; have HF8 := Aside0.mk (HFc.out.kept HBW.out (plGrown (below_alloc hb8 (.cells #[.int .i64 m] 3)) _)); have HM8 := Aside0.mk (HMc.out.below (below_alloc hb8 (.cells #[.int .i64 m] 3))); have HO8 := Aside0.mk (HOc.out.kept (plGrown (below_alloc hb8 (.cells #[.int .i64 m] 3)) (some B)) HBW.out); have HNW := Aside0.mk (plNews w8 m); have HON := Aside0.mk (plOne m); have HBD := Aside0.mk (show o1.length + 1 ≤ maxLen ∧ (o1.length + 1) * 8 ≤ 140737488355328 from by have := HLEN.out.2; unfold maxLen; omega); clear hb8) | (at_builtin; refine wpList_append_own _ rfl (.tmp 45) (.tmp 47) 34 rfl W.heap.size 3 ii (.int .i64 0) 1 8 ?a1 ?a2 ?a3 ?a4 ?a5 ?a6 ?a7 vo o1.length (o1.map (Value.int .i64)) ?a8 ?a9 ⟨w8.heap.size, 0, none⟩ 1 1 [.int .i64 m] ?b1 ?b2 ?b3 ?b4 ?b5 ?b6 ?b7 ?b8; (case a1 => exact Tryd.underlying34); (case a2 => exact HII.out); (case a3 => exact HIJ.out.1); (case a4 => exact HIJ.out.2.1); (case a5 => exact HIJ.out.2.2); (case a6 => rfl); (case a7 => decide); (case a8 => rfl); (case a9 => exact HO8.out); (case b1 => rfl); (case b2 => rfl); (case b3 => exact HNW.out); (case b4 => exact HON.out); (case b5 => exact HBD.out.1); (case b6 => exact HBD.out.2); (case b7 => exact HF8.out.g.size); intro v9 w9 hown9 hg9 _; have HF9 := Aside0.mk (plF1.row HF8.out HO8.out hg9); have HM9 := Aside0.mk (plMem.row HM8.out HO8.out hg9); have HO9 := Aside0.mk (plOut.snoc hown9); clear hown9 hg9) | (go_at_call 63; (refine (impl_hopped.calls s1 m t _ HT.out).mono ?_); rintro e w10 ⟨rfl, hb10⟩; have HFz := Aside0.mk (HF9.out.kept HBW.out (plGrown hb10 _)); have HMz := Aside0.mk (HM9.out.below hb10); have HOz := Aside0.mk (HO9.out.kept (plGrown hb10 (some B)) HBW.out); clear hb10))
                go_roundg k1
                case measure => omega
                case rel => exact ⟨t, _, o1 ++ [m], M5, lf - 1, rfl, rfl, rfl, ⟨by have := HK.out; omega⟩, ⟨by have := HLL.out; omega⟩, HNX, HFz, HMz, HOz⟩
              · rw [if_neg (fun h => he h.2)] at hrn2
                have z2 : (tn == lf - 1) = false := beq_eq_false_iff_ne.2 (fun h => he (by have := HK.out; omega))
                have HNX := Aside0.mk hrn2
                clear hz he hrn2
                go_wp2_with (first | (go_at_call 53; (refine (impl_mostOf.calls n1 n2 n3 tn _ (by rw [← HTN.out]; rfl)).mono ?_); rintro e w8 ⟨rfl, hb8⟩; have HF8 := Aside0.mk (HFc.out.kept HBW.out (plGrown hb8 _)); have HM8 := Aside0.mk (HMc.out.below hb8); have HO8 := Aside0.mk (HOc.out.kept (plGrown hb8 (some B)) HBW.out); have HR8 := Aside0.mk (HRc.out.kept (plGrown hb8 (some B)) HBW.out); clear hb8))
                go_roundg j1
                case measure => omega
                case rel => exact ⟨i + 1, M5, rfl, rfl, rfl, ⟨by have := HI.out; omega⟩, ⟨by have := HKi.out; omega⟩, HNX, HF8, HM8, HO8, HR8⟩
            · have z1 : decide (0 < n3) = false := decide_eq_false hz
              rw [if_neg (fun h => hz h.1)] at hrn2
              have HNX := Aside0.mk hrn2
              clear hz hrn2
              go_wp2
              go_roundg j1
              case measure => omega
              case rel => exact ⟨i + 1, M5, rfl, rfl, rfl, ⟨by have := HI.out; omega⟩, ⟨by have := HKi.out; omega⟩, HNX, HFc, HMc, HOc, HRc⟩
def impl_LongestFrogPlay.f (k : Nat) (a0 : ByteArray) : Option (List Int × Bool) := (impl_IsPond.f a0).bind fun p => if p = true then (plFst (impl_isStuck.f k) plMost k k [] a0).bind fun l => some (l, true) else some ([], false)
theorem impl_LongestFrogPlay.mono : ∀ a0 k, LeO (impl_LongestFrogPlay.f k a0) (impl_LongestFrogPlay.f (k + 1) a0) := fun a0 k =>
  LeO.bind (LeO.refl _) (fun _ => LeO.ite (LeO.bind (plFst_le plMost k k (fun s => impl_isStuck.mono s k) [] a0) (fun _ => LeO.refl _)) (LeO.refl _))
set_option maxHeartbeats 8000000 in
set_option maxRecDepth 100000 in
theorem impl_LongestFrogPlay.calls (k : Nat) (a0 : ByteArray) (r1 : List Int) (r2 : Bool) (w : World) (h : impl_LongestFrogPlay.f k a0 = some (r1, r2)) :
    Calls Tryd.prog 25 #[.string a0] w fun e w' => ∃ v0_ : Value, e = .returned (.tuple #[v0_, .bool r2]) ∧ Kd.R (Kd.int .i64) 3 w' w.heap.size (fun _ => True) v0_ r1 ∧ Below w.heap.size w w' := by
  obtain ⟨p, hp, h⟩ := Option.bind_eq_some_iff.mp h
  have HP := Aside0.mk hp
  clear hp
  cases p with
  | false =>
    simp only [Bool.false_eq_true, if_false, Option.some.injEq, Prod.mk.injEq] at h
    obtain ⟨rfl, rfl⟩ := h
    go_enter Tryd.func25, Tryd.ntmps25
    go_wp2_with (go_at_call 36; (refine (impl_IsPond.calls a0 false _ HP.out).mono ?_); rintro e w3 ⟨rfl, hb⟩; have HBL := Aside0.mk hb; clear hb)
    go_ret2
    exact ⟨_, rfl, Kd.R_nil _ _ _ _ _, HBL.out⟩
  | true =>
    rw [if_pos rfl] at h
    obtain ⟨l, hq, h⟩ := Option.bind_eq_some_iff.mp h
    simp only [Option.some.injEq, Prod.mk.injEq] at h
    obtain ⟨rfl, rfl⟩ := h
    have HQ := Aside0.mk hq
    clear hq
    go_enter Tryd.func25, Tryd.ntmps25
    go_wp2_with (first | (go_at_call 36; (refine (impl_IsPond.calls a0 true _ HP.out).mono ?_); rintro e w3 ⟨rfl, hb⟩; have HBL := Aside0.mk hb; clear hb) | (go_at_call 51; (refine (plTo_walk 40 #[] _).mono ?_); rintro e w4 ⟨B, rfl, hB, hm, hb⟩; have HB := Aside0.mk (Nat.le_trans HBL.out.size hB); have HM := Aside0.mk hm; have HBM := Aside0.mk (below_step HBL.out hb); clear hB hm hb) | (go_at_call 52; (refine (plFst_walkSM (impl_isStuck.f k) _ (plStuck k) k B k [] a0 l _ HQ.out HM.out trivial).mono ?_); rintro e w5 ⟨v5, rfl, ho5, hg5⟩; have HBZ := Aside0.mk (HBM.out.grown hg5 HBM.out.size (fun j hj => by injection hj with hj; have := HB.out; omega)); have HO5 := Aside0.mk (plOut.toR ho5 HBM.out.size); clear ho5 hg5))
    go_ret2
    exact ⟨_, rfl, HO5.out, HBZ.out⟩

/-! ### laws_eqIntS: function 26 -/
def laws_eqIntS.l0 : Nat → List Int → List Int → Int → Option (Bool)
  | 0, _, _, _ => none
  | k + 1, x0, x1, x5 => if x5 < (x0.length : Int) then (if 0 ≤ x5 then (if x5 < (x1.length : Int) then (if (rd x0 x5) = (rd x1 x5) then (laws_eqIntS.l0 k x0 x1 (wrap64 (x5 + 1))) else (some false)) else (none)) else (none)) else (some true)
def laws_eqIntS.f (k : Nat) (l0 : List Int) (l1 : List Int) : Option (Bool) := if (l0.length : Int) = (l1.length : Int) then (laws_eqIntS.l0 k l0 l1 0) else (some false)
theorem laws_eqIntS.mono_l : ∀ k, (∀ y0 y1 y2, LeO (laws_eqIntS.l0 k y0 y1 y2) (laws_eqIntS.l0 (k + 1) y0 y1 y2))
  | 0 => fun _ _ _ r h => by simp [laws_eqIntS.l0] at h
  | k + 1 => by
    have ih0 := laws_eqIntS.mono_l k
    · intro y0 y1 y2
      unfold laws_eqIntS.l0
      repeat' first
      | (with_reducible exact ih0 _ _ _)
      | (with_reducible exact LeO.refl _)
      | (with_reducible exact LeO.none _)
      | (with_reducible refine LeO.ite ?_ ?_)
      | (with_reducible refine LeO.bind ?_ (fun _ => ?_))
      | exact ih0 _ _ _
      | exact LeO.none _
      | refine LeO.ite ?_ ?_
      | refine LeO.bind ?_ (fun _ => ?_)
theorem laws_eqIntS.mono : ∀ a0 a1 k, LeO (laws_eqIntS.f k a0 a1) (laws_eqIntS.f (k + 1) a0 a1) := by
  intro a0 a1 k
  have ih0 := laws_eqIntS.mono_l k
  unfold laws_eqIntS.f
  repeat' first
      | (with_reducible exact ih0 _ _ _)
      | (with_reducible exact LeO.refl _)
      | (with_reducible exact LeO.none _)
      | (with_reducible refine LeO.ite ?_ ?_)
      | (with_reducible refine LeO.bind ?_ (fun _ => ?_))
      | exact ih0 _ _ _
      | exact LeO.none _
      | refine LeO.ite ?_ ?_
      | refine LeO.bind ?_ (fun _ => ?_)
set_option maxHeartbeats 8000000 in
set_option maxRecDepth 100000 in
theorem laws_eqIntS.calls (k : Nat) (A0 : Option Addr) (c0 : Nat) (l0 : List Int) (A1 : Option Addr) (c1 : Nat) (l1 : List Int) (r : Bool) (w : World) (hr0 : Kd.C (Kd.int .i64) w A0 l0.length l0) (hc0 : l0.length ≤ c0) (hr1 : Kd.C (Kd.int .i64) w A1 l1.length l1) (hc1 : l1.length ≤ c1) (h : laws_eqIntS.f k l0 l1 = some r) :
    Calls Tryd.prog 26 #[.slice A0 l0.length c0, .slice A1 l1.length c1] w fun e w' => e = .returned (.bool r) ∧ Drawn0 w w' := by
  have HR0 := Aside0.mk hr0
  have HC0 := Aside0.mk hc0
  clear hr0 hc0
  have HR1 := Aside0.mk hr1
  have HC1 := Aside0.mk hc1
  clear hr1 hc1
  have H : (if (l0.length : Int) = (l1.length : Int) then (laws_eqIntS.l0 k l0 l1 0) else (some false)) = some r := h
  clear h
  by_cases c3 : (l0.length : Int) = (l1.length : Int)
  · rw [if_pos c3] at H
    have c3b0 : ((l0.length : Int) == (l1.length : Int)) = true := beq_iff_eq.mpr c3
    have c3b1 : ((l0.length : Int) != (l1.length : Int)) = false := bne_eq_false_iff_eq.mpr c3
    have c3b2 : (l0.length == l1.length) = true := by first | simpa using c3 | (simp at c3 ⊢; omega)
    clear c3
    have H' := Aside0.mk H
    clear H
    go_enter Tryd.func26, Tryd.ntmps26
    go_wp2
    repeat (go_quiet (fail); try go_wp2)
    go_loopg [5] k (fun kq v5 w' => ∃ (x5_1 : Int), v5 = .int .i64 x5_1 ∧ Aside0 (laws_eqIntS.l0 kq l0 l1 x5_1 = some r) ∧ Aside0 (kq ≤ k) ∧ Drawn0 w w')
    case atStart => exact ⟨(0), (by first | rfl | (simp; done) | (simp [*]; done)), H', ⟨Nat.le_refl _⟩, by repeat (first | exact Drawn0.refl _ | apply Drawn0.step)⟩
    case round =>
      clear H'
      try clear c1
      try clear c2
      try clear p2
      try clear c3
      try clear c3b0
      try clear c3b1
      try clear c3b2
      obtain ⟨x5_1, rfl, HA, HK1, ⟨m1, rfl⟩⟩ := hrel
      cases gk with
      | zero => exact absurd HA.out (by simp [laws_eqIntS.l0])
      | succ k1 =>
        have H := HA.out
        clear HA
        simp only [laws_eqIntS.l0] at H
        by_cases c4 : x5_1 < (l0.length : Int)
        · rw [if_pos c4] at H
          have c4b0 : decide (x5_1 < (l0.length : Int)) = true := decide_eq_true c4
          clear c4
          by_cases c5 : 0 ≤ x5_1
          · rw [if_pos c5] at H
            have c5b0 : decide (0 ≤ x5_1) = true := decide_eq_true c5
            clear c5
            by_cases c6 : x5_1 < (l1.length : Int)
            · rw [if_pos c6] at H
              have c6b0 : decide (x5_1 < (l1.length : Int)) = true := decide_eq_true c6
              clear c6
              by_cases c7 : (rd l0 x5_1) = (rd l1 x5_1)
              · rw [if_pos c7] at H
                have c7b0 : ((rd l0 x5_1) == (rd l1 x5_1)) = true := beq_iff_eq.mpr c7
                have c7b1 : ((rd l0 x5_1) != (rd l1 x5_1)) = false := bne_eq_false_iff_eq.mpr c7
                clear c7
                have H' := Aside0.mk H
                clear H
                have p133 : 0 ≤ (x5_1 : Int) := of_decide_eq_true (by first | (with_reducible assumption) | assumption)
                have q133 : x5_1 < (l0.length : Int) := of_decide_eq_true (by first | (with_reducible assumption) | assumption)
                obtain ⟨ad133, e133, hx133_0⟩ := Kd.at_int HR0.out x5_1 p133 q133
                cases e133
                replace p133 := eq_true p133
                replace q133 := eq_true q133
                have p134 : 0 ≤ (x5_1 : Int) := of_decide_eq_true (by first | (with_reducible assumption) | assumption)
                have q134 : x5_1 < (l1.length : Int) := of_decide_eq_true (by first | (with_reducible assumption) | assumption)
                obtain ⟨ad134, e134, hx134_0⟩ := Kd.at_int HR1.out x5_1 p134 q134
                cases e134
                replace p134 := eq_true p134
                replace q134 := eq_true q134
                go_wp2
                repeat (go_quiet (fail); try go_wp2)
                go_roundg k1
                case measure => have := HK1.out; omega
                case rel => exact ⟨(wrap64 (x5_1 + 1)), (by first | rfl | (simp; done) | (simp [*]; done)), H', ⟨by have := HK1.out; omega⟩, by repeat (first | exact Drawn0.refl _ | apply Drawn0.step)⟩
              · rw [if_neg c7] at H
                have c7b0 : ((rd l0 x5_1) == (rd l1 x5_1)) = false := beq_eq_false_iff_ne.mpr c7
                have c7b1 : ((rd l0 x5_1) != (rd l1 x5_1)) = true := bne_iff_ne.mpr c7
                obtain rfl := Option.some.inj H
                have p133 : 0 ≤ (x5_1 : Int) := of_decide_eq_true (by first | (with_reducible assumption) | assumption)
                have q133 : x5_1 < (l0.length : Int) := of_decide_eq_true (by first | (with_reducible assumption) | assumption)
                obtain ⟨ad133, e133, hx133_0⟩ := Kd.at_int HR0.out x5_1 p133 q133
                cases e133
                replace p133 := eq_true p133
                replace q133 := eq_true q133
                have p134 : 0 ≤ (x5_1 : Int) := of_decide_eq_true (by first | (with_reducible assumption) | assumption)
                have q134 : x5_1 < (l1.length : Int) := of_decide_eq_true (by first | (with_reducible assumption) | assumption)
                obtain ⟨ad134, e134, hx134_0⟩ := Kd.at_int HR1.out x5_1 p134 q134
                cases e134
                replace p134 := eq_true p134
                replace q134 := eq_true q134
                go_wp2
                repeat (go_quiet (fail); try go_wp2)
                go_ret
                exact ⟨by first | rfl | (simp; done) | (simp [*]; done), by repeat (first | exact Drawn0.refl _ | apply Drawn0.step)⟩
            · rw [if_neg c6] at H
              exact absurd H (by simp)
          · rw [if_neg c5] at H
            exact absurd H (by simp)
        · rw [if_neg c4] at H
          have c4b0 : decide (x5_1 < (l0.length : Int)) = false := decide_eq_false c4
          clear c4
          obtain rfl := Option.some.inj H
          go_wp2
          repeat (go_quiet (fail); try go_wp2)
          go_ret
          exact ⟨by first | rfl | (simp; done) | (simp [*]; done), by repeat (first | exact Drawn0.refl _ | apply Drawn0.step)⟩
  · rw [if_neg c3] at H
    have c3b0 : ((l0.length : Int) == (l1.length : Int)) = false := beq_eq_false_iff_ne.mpr c3
    have c3b1 : ((l0.length : Int) != (l1.length : Int)) = true := bne_iff_ne.mpr c3
    have c3b2 : (l0.length == l1.length) = false := by first | simpa using c3 | (simp at c3 ⊢; omega)
    obtain rfl := Option.some.inj H
    go_enter Tryd.func26, Tryd.ntmps26
    go_wp2
    repeat (go_quiet (fail); try go_wp2)
    go_ret
    exact ⟨by first | rfl | (simp; done) | (simp [*]; done), by repeat (first | exact Drawn0.refl _ | apply Drawn0.step)⟩

/-! ### laws_markIntS: function 27 -/
def laws_markIntS.l0 : Nat → List Int → Int → Int → Option (Int × List Int)
  | 0, _, _, _ => none
  | k + 1, x0, x1, x5 => if x5 < (x0.length : Int) then (if 0 ≤ x5 then (laws_markIntS.l0 k (x0.set (x5 : Int).toNat x1) (wrap64 (x1 + 1)) (wrap64 (x5 + 1))) else (none)) else (some (x1, x0))
def laws_markIntS.f (k : Nat) (l0 : List Int) (a1 : Int) : Option (Int × List Int) := laws_markIntS.l0 k l0 a1 0
theorem laws_markIntS.mono_l : ∀ k, (∀ y0 y1 y2, LeO (laws_markIntS.l0 k y0 y1 y2) (laws_markIntS.l0 (k + 1) y0 y1 y2))
  | 0 => fun _ _ _ r h => by simp [laws_markIntS.l0] at h
  | k + 1 => by
    have ih0 := laws_markIntS.mono_l k
    · intro y0 y1 y2
      unfold laws_markIntS.l0
      repeat' first
      | (with_reducible exact ih0 _ _ _)
      | (with_reducible exact LeO.refl _)
      | (with_reducible exact LeO.none _)
      | (with_reducible refine LeO.ite ?_ ?_)
      | (with_reducible refine LeO.bind ?_ (fun _ => ?_))
      | exact ih0 _ _ _
      | exact LeO.none _
      | refine LeO.ite ?_ ?_
      | refine LeO.bind ?_ (fun _ => ?_)
theorem laws_markIntS.mono : ∀ a0 a1 k, LeO (laws_markIntS.f k a0 a1) (laws_markIntS.f (k + 1) a0 a1) := by
  intro a0 a1 k
  have ih0 := laws_markIntS.mono_l k
  unfold laws_markIntS.f
  repeat' first
      | (with_reducible exact ih0 _ _ _)
      | (with_reducible exact LeO.refl _)
      | (with_reducible exact LeO.none _)
      | (with_reducible refine LeO.ite ?_ ?_)
      | (with_reducible refine LeO.bind ?_ (fun _ => ?_))
      | exact ih0 _ _ _
      | exact LeO.none _
      | refine LeO.ite ?_ ?_
      | refine LeO.bind ?_ (fun _ => ?_)
set_option maxHeartbeats 8000000 in
set_option maxRecDepth 100000 in
theorem laws_markIntS.calls (k : Nat) (P0_ : Nat → Prop) (u9000_ : Value) (l0 : List Int) (a1 : Int) (r1 : Int) (r2 : List Int) (w0 w : World) (hB : Below w0.heap.size w0 w) (ho0 : Kd.R (Kd.int .i64) 3 w w0.heap.size P0_ u9000_ l0) (h : laws_markIntS.f k l0 a1 = some (r1, r2)) :
    Calls Tryd.prog 27 #[u9000_, .int .i64 a1] w fun e w' => e = .returned (.int .i64 r1) ∧ Kd.R (Kd.int .i64) 3 w' w0.heap.size (fun k_ => (P0_ k_ ∨ w.heap.size ≤ k_)) u9000_ r2 ∧ Below w0.heap.size w0 w' ∧ Kept w w' (fun k_ => P0_ k_) := by
  have HO0 := Aside0.mk (show Kd.R (Kd.int .i64) 3 w w0.heap.size (fun k_ => (P0_ k_ ∨ w.heap.size ≤ k_)) u9000_ l0 from Kd.R_mono ho0 (fun k_ hk => (.inl hk)))
  have HK := Aside0.mk (Kept.refl w (fun k_ => P0_ k_))
  have HW0 := Aside0.mk hB.size
  have HB := Aside0.mk hB
  clear hB
  have H : (laws_markIntS.l0 k l0 a1 0) = some (r1, r2) := h
  clear h
  have H' := Aside0.mk H
  clear H
  go_enter Tryd.func27, Tryd.ntmps27
  go_wp2
  go_loopg [1, 5] k (fun kq v1 v5 w' => ∃ (x0_1 : List Int) (x1_1 : Int) (x5_1 : Int), v1 = .int .i64 x1_1 ∧ v5 = .int .i64 x5_1 ∧ Aside0 (laws_markIntS.l0 kq x0_1 x1_1 x5_1 = some (r1, r2)) ∧ Aside0 (kq ≤ k) ∧ Aside0 (Kd.R (Kd.int .i64) 3 w' w0.heap.size (fun k_ => (P0_ k_ ∨ w.heap.size ≤ k_)) u9000_ x0_1) ∧ Aside0 (Kept w w' (fun k_ => P0_ k_)) ∧ Aside0 (Below w0.heap.size w0 w'))
  case atStart => exact ⟨(l0), (a1), (0), (by first | rfl | (simp; done) | (simp [*]; done)), (by first | rfl | (simp; done) | (simp [*]; done)), H', ⟨Nat.le_refl _⟩, ⟨by (with_reducible repeat (first | apply Kd.R_alloc | apply Kd.R_drewN | apply Kd.R_drew)); exact HO0.out⟩, ⟨by repeat (first | (with_reducible first | exact HK.out | apply Kept.alloc | apply Kept.drewN | apply Kept.drew) | exact HK.out)⟩, ⟨by repeat (first | (with_reducible first | exact HB.out | apply below_alloc | apply pw_below_drewN | apply below_drew1) | exact HB.out)⟩⟩
  case round =>
    clear H'
    try clear c2
    try clear p2
    obtain ⟨x0_1, x1_1, x5_1, rfl, rfl, HA, HK1, HO_0, HK, HB⟩ := hrel
    cases gk with
    | zero => exact absurd HA.out (by simp [laws_markIntS.l0])
    | succ k1 =>
      have H := HA.out
      clear HA
      simp only [laws_markIntS.l0] at H
      by_cases c3 : x5_1 < (x0_1.length : Int)
      · rw [if_pos c3] at H
        have c3b0 : decide (x5_1 < (x0_1.length : Int)) = true := decide_eq_true c3
        clear c3
        by_cases c4 : 0 ≤ x5_1
        · rw [if_pos c4] at H
          have c4b0 : decide (0 ≤ x5_1) = true := decide_eq_true c4
          clear c4
          obtain ⟨y135, hy135⟩ : ∃ y_ : List Int, y_ = (x0_1.set (x5_1 : Int).toNat x1_1) := ⟨_, rfl⟩
          replace H : (laws_markIntS.l0 k1 y135 (wrap64 (x1_1 + 1)) (wrap64 (x5_1 + 1))) = some (r1, r2) := by first | (rw [hy135]; with_reducible exact H) | (have H2_ := (Option.bind_some _ _).symm.trans H; rw [hy135]; with_reducible exact H2_) | (have H2_ := (Option.bind_some _ _).symm.trans H; with_reducible exact H2_) | with_reducible exact H | (rw [hy135]; exact H) | exact H
          have Ny135 := Aside0.mk hy135
          clear hy135
          have H' := Aside0.mk H
          clear H
          obtain ⟨Ao6, co6, eo6⟩ := Kd.R_slice HO_0.out
          subst eo6
          have p5 : 0 ≤ (x5_1 : Int) := of_decide_eq_true (by first | (with_reducible assumption) | assumption)
          have q5 : (x5_1 : Int) < ((x0_1.length : Int) : Int) := of_decide_eq_true (by first | (with_reducible assumption) | assumption)
          obtain ⟨go5, co5, eo5, gb5, gl5, cl5, HG5⟩ := Kd.R_form HO_0.out (by omega)
          (first | cases eo5 | (injection eo5 with ea_ en_ ec_; (first | subst ea_ | (injection ea_ with ea_; subst ea_)); subst ec_; clear en_))
          have GB5 := Aside0.mk gb5
          have GG5 := Aside0.mk HG5
          clear gb5 gl5 HG5
          have HMgo5 := Aside0.mk (show (P0_ go5 ∨ w.heap.size ≤ go5) from (HO_0.out.1 _ rfl))
          obtain ⟨hx5_0, hf5_0⟩ := Kd.R_celln 0 HO_0.out (x5_1 : Int) p5 q5
          replace p5 := eq_true p5
          replace q5 := eq_true q5
          have HP7 := Kd.R_putg HO_0.out (x5_1 : Int) x1_1
          go_wp2_with (first | ((with_reducible refine gate_store (t := 3) (p := 15) rfl ?_); refine store_event (t := 3) (p := 15) (v := ?vo_w8) (w1 := (wr.setCell ⟨go5, (x5_1 : Int).toNat, none⟩ (.int .i64 x1_1))) ?hg ?ho ?hn ?hr ?_; (case ho => rfl); (case hg => rfl); (case hn => rfl); (case hr => first | (go_simp; done) | (go_simp; rfl)); intro w8 hw; have hg : wr.grownBy w8 (some go5) := (by rw [hw]; exact HP7.2); have hp_ : Kd.R (Kd.int .i64) 3 w8 w0.heap.size (fun k_ => (P0_ k_ ∨ w.heap.size ≤ k_)) (.slice (some ⟨go5, 0, none⟩) x0_1.length co6) y135 := (by rw [hw, Ny135.out]; exact HP7.1); clear HP7; have n0_ := Aside0.mk (hp_); have n1_ := Aside0.mk ((by rw [hw]; exact below_set (HB.out) GB5.out : Below w0.heap.size w0 w8)); have n2_ := Aside0.mk (Kept.of_grown (S := (fun k_ => P0_ k_)) hg (by repeat (first | (with_reducible first | exact HK.out | apply Kept.alloc | apply Kept.drewN | apply Kept.drew) | exact HK.out)) (fun k_ e_ => (HO_0.out.1 k_ e_))); clear HO_0; clear HB; clear HK; have HO_0 := n0_; have HB := n1_; have HK := n2_; clear n0_ n1_ n2_; clear hg hw hp_))
          go_roundg k1
          case measure => have := HK1.out; omega
          case rel => exact ⟨(y135), (wrap64 (x1_1 + 1)), (wrap64 (x5_1 + 1)), (by first | rfl | (simp; done) | (simp [*]; done)), (by first | rfl | (simp; done) | (simp [*]; done)), H', ⟨by have := HK1.out; omega⟩, ⟨by (with_reducible repeat (first | apply Kd.R_alloc | apply Kd.R_drewN | apply Kd.R_drew)); exact HO_0.out⟩, ⟨by repeat (first | (with_reducible first | exact HK.out | apply Kept.alloc | apply Kept.drewN | apply Kept.drew) | exact HK.out)⟩, ⟨by repeat (first | (with_reducible first | exact HB.out | apply below_alloc | apply pw_below_drewN | apply below_drew1) | exact HB.out)⟩⟩
        · rw [if_neg c4] at H
          exact absurd H (by simp)
      · rw [if_neg c3] at H
        have c3b0 : decide (x5_1 < (x0_1.length : Int)) = false := decide_eq_false c3
        clear c3
        simp only [Option.some.injEq, Prod.mk.injEq] at H
        obtain ⟨rfl, rfl⟩ := H
        obtain ⟨Ao9, co9, eo9⟩ := Kd.R_slice HO_0.out
        subst eo9
        go_wp2
        go_ret
        exact ⟨by first | rfl | (simp [errW_none, errW_some] <;> rfl) | (simp [*, errW_none, errW_some] <;> rfl), by (with_reducible repeat (first | apply Kd.R_alloc | apply Kd.R_drewN | apply Kd.R_drew)); exact HO_0.out, by repeat (first | (with_reducible first | exact HB.out | apply below_alloc | apply pw_below_drewN | apply below_drew1) | exact HB.out), by repeat (first | (with_reducible first | exact HK.out | apply Kept.alloc | apply Kept.drewN | apply Kept.drew) | exact HK.out)⟩

/-! ### laws_heldIntS: function 28 -/
def laws_heldIntS.l0 : Nat → List Int → Int → Int → Option (Int)
  | 0, _, _, _ => none
  | k + 1, x0, x1, x5 => if x5 < (x0.length : Int) then (if 0 ≤ x5 then (if (rd x0 x5) = x1 then (laws_heldIntS.l0 k x0 (wrap64 (x1 + 1)) (wrap64 (x5 + 1))) else (some (-1))) else (none)) else (some x1)
def laws_heldIntS.f (k : Nat) (l0 : List Int) (a1 : Int) : Option (Int) := laws_heldIntS.l0 k l0 a1 0
theorem laws_heldIntS.mono_l : ∀ k, (∀ y0 y1 y2, LeO (laws_heldIntS.l0 k y0 y1 y2) (laws_heldIntS.l0 (k + 1) y0 y1 y2))
  | 0 => fun _ _ _ r h => by simp [laws_heldIntS.l0] at h
  | k + 1 => by
    have ih0 := laws_heldIntS.mono_l k
    · intro y0 y1 y2
      unfold laws_heldIntS.l0
      repeat' first
      | (with_reducible exact ih0 _ _ _)
      | (with_reducible exact LeO.refl _)
      | (with_reducible exact LeO.none _)
      | (with_reducible refine LeO.ite ?_ ?_)
      | (with_reducible refine LeO.bind ?_ (fun _ => ?_))
      | exact ih0 _ _ _
      | exact LeO.none _
      | refine LeO.ite ?_ ?_
      | refine LeO.bind ?_ (fun _ => ?_)
theorem laws_heldIntS.mono : ∀ a0 a1 k, LeO (laws_heldIntS.f k a0 a1) (laws_heldIntS.f (k + 1) a0 a1) := by
  intro a0 a1 k
  have ih0 := laws_heldIntS.mono_l k
  unfold laws_heldIntS.f
  repeat' first
      | (with_reducible exact ih0 _ _ _)
      | (with_reducible exact LeO.refl _)
      | (with_reducible exact LeO.none _)
      | (with_reducible refine LeO.ite ?_ ?_)
      | (with_reducible refine LeO.bind ?_ (fun _ => ?_))
      | exact ih0 _ _ _
      | exact LeO.none _
      | refine LeO.ite ?_ ?_
      | refine LeO.bind ?_ (fun _ => ?_)
set_option maxHeartbeats 8000000 in
set_option maxRecDepth 100000 in
theorem laws_heldIntS.calls (k : Nat) (A0 : Option Addr) (c0 : Nat) (l0 : List Int) (a1 : Int) (r : Int) (w : World) (hr0 : Kd.C (Kd.int .i64) w A0 l0.length l0) (hc0 : l0.length ≤ c0) (h : laws_heldIntS.f k l0 a1 = some r) :
    Calls Tryd.prog 28 #[.slice A0 l0.length c0, .int .i64 a1] w fun e w' => e = .returned (.int .i64 r) ∧ Drawn0 w w' := by
  have HR0 := Aside0.mk hr0
  have HC0 := Aside0.mk hc0
  clear hr0 hc0
  have H : (laws_heldIntS.l0 k l0 a1 0) = some r := h
  clear h
  have H' := Aside0.mk H
  clear H
  go_enter Tryd.func28, Tryd.ntmps28
  go_wp2
  go_loopg [1, 5] k (fun kq v1 v5 w' => ∃ (x1_1 : Int) (x5_1 : Int), v1 = .int .i64 x1_1 ∧ v5 = .int .i64 x5_1 ∧ Aside0 (laws_heldIntS.l0 kq l0 x1_1 x5_1 = some r) ∧ Aside0 (kq ≤ k) ∧ Drawn0 w w')
  case atStart => exact ⟨(a1), (0), (by first | rfl | (simp; done) | (simp [*]; done)), (by first | rfl | (simp; done) | (simp [*]; done)), H', ⟨Nat.le_refl _⟩, by repeat (first | exact Drawn0.refl _ | apply Drawn0.step)⟩
  case round =>
    clear H'
    try clear c2
    try clear p2
    obtain ⟨x1_1, x5_1, rfl, rfl, HA, HK1, ⟨m1, rfl⟩⟩ := hrel
    cases gk with
    | zero => exact absurd HA.out (by simp [laws_heldIntS.l0])
    | succ k1 =>
      have H := HA.out
      clear HA
      simp only [laws_heldIntS.l0] at H
      by_cases c3 : x5_1 < (l0.length : Int)
      · rw [if_pos c3] at H
        have c3b0 : decide (x5_1 < (l0.length : Int)) = true := decide_eq_true c3
        clear c3
        by_cases c4 : 0 ≤ x5_1
        · rw [if_pos c4] at H
          have c4b0 : decide (0 ≤ x5_1) = true := decide_eq_true c4
          clear c4
          by_cases c5 : (rd l0 x5_1) = x1_1
          · rw [if_pos c5] at H
            have c5b0 : ((rd l0 x5_1) == x1_1) = true := beq_iff_eq.mpr c5
            have c5b1 : ((rd l0 x5_1) != x1_1) = false := bne_eq_false_iff_eq.mpr c5
            clear c5
            have H' := Aside0.mk H
            clear H
            have p136 : 0 ≤ (x5_1 : Int) := of_decide_eq_true (by first | (with_reducible assumption) | assumption)
            have q136 : x5_1 < (l0.length : Int) := of_decide_eq_true (by first | (with_reducible assumption) | assumption)
            obtain ⟨ad136, e136, hx136_0⟩ := Kd.at_int HR0.out x5_1 p136 q136
            cases e136
            replace p136 := eq_true p136
            replace q136 := eq_true q136
            go_wp2
            go_roundg k1
            case measure => have := HK1.out; omega
            case rel => exact ⟨(wrap64 (x1_1 + 1)), (wrap64 (x5_1 + 1)), (by first | rfl | (simp; done) | (simp [*]; done)), (by first | rfl | (simp; done) | (simp [*]; done)), H', ⟨by have := HK1.out; omega⟩, by repeat (first | exact Drawn0.refl _ | apply Drawn0.step)⟩
          · rw [if_neg c5] at H
            have c5b0 : ((rd l0 x5_1) == x1_1) = false := beq_eq_false_iff_ne.mpr c5
            have c5b1 : ((rd l0 x5_1) != x1_1) = true := bne_iff_ne.mpr c5
            obtain rfl := Option.some.inj H
            have p136 : 0 ≤ (x5_1 : Int) := of_decide_eq_true (by first | (with_reducible assumption) | assumption)
            have q136 : x5_1 < (l0.length : Int) := of_decide_eq_true (by first | (with_reducible assumption) | assumption)
            obtain ⟨ad136, e136, hx136_0⟩ := Kd.at_int HR0.out x5_1 p136 q136
            cases e136
            replace p136 := eq_true p136
            replace q136 := eq_true q136
            go_wp2
            go_ret
            exact ⟨by first | rfl | (simp; done) | (simp [*]; done), by repeat (first | exact Drawn0.refl _ | apply Drawn0.step)⟩
        · rw [if_neg c4] at H
          exact absurd H (by simp)
      · rw [if_neg c3] at H
        have c3b0 : decide (x5_1 < (l0.length : Int)) = false := decide_eq_false c3
        clear c3
        obtain rfl := Option.some.inj H
        go_wp2
        go_ret
        exact ⟨by first | rfl | (simp; done) | (simp [*]; done), by repeat (first | exact Drawn0.refl _ | apply Drawn0.step)⟩

end Go.Proofs.YtkikpfeipejnlaaDoor.PFnExactLongestFrogPlay
