-- Printed by this session's eprint.py over the kit's print (with this session's own texts for some functions)
import Derived.Test.YtjkhpdfphphnfaaPFnExactFewestJoinedx0
import Derived.Test.YtjkhpdfphphnfaaPFnExactFewestJoinedx1
import Derived.Test.YtjkhpdfphphnfaaPFnExactFewestJoinedx2
namespace Go.Proofs.Ytjkhpdfphphnfaa.PFnExactFewestJoined
open Go.RowKit Go.Proofs.YtjkhpdfphphnfaaW.PrintWords Go.Proofs.YtjkhpdfphphnfaaW.PrintLast Go.Proofs.YtjkhpdfphphnfaaW.PrintMore
attribute [local go_sem] max2_int min2_int max_two min_two max_three min_three max_four min_four   -- for this text's walks alone
set_option linter.unusedVariables false
set_option linter.unusedSimpArgs false

/-! ### impl_FirstJoined: function 13 -/
--USES helper_region
/-- What is remembered behind a look at a list. -/
def impl_FirstJoined.upd (gap lap rest : Int) (list : List Int) (long : Int) (best : Option (List Int)) : Option (List Int) :=
  if 0 < list.length ∧ gap + 2 * rest ≤ long - lap * ((list.length : Int) - 1) then (match best with | none => some list | some b => if list.length < b.length then some list else some b) else best
/-- The rest of a round: the places from pl.length - d on. -/
def impl_FirstJoined.lo (gap lap rest : Int) (pl : List Int) : Nat → List Int → Int → Option (List Int) → Option (List Int)
  | 0, _, _, best => best
  | d + 1, list, long, best =>
    let i : Int := (pl.length : Int) - ((d + 1 : Nat) : Int)
    impl_FirstJoined.lo gap lap rest pl d list long (impl_FirstJoined.lo gap lap rest pl d (list ++ [i]) (long + rd pl i) (impl_FirstJoined.upd gap lap rest (list ++ [i]) (long + rd pl i) best))
/-- The row of a list, of the call's own. -/
def impl_FirstJoined.LV (b0 : Nat) (W : World) (v : Value) (l : List Int) : Prop := W.ownsRow b0 3 1 v l.length (l.map (Value.int .i64))
theorem impl_FirstJoined.LV.nil (b0 : Nat) (W : World) : impl_FirstJoined.LV b0 W (.slice none 0 0) [] := World.ownsRow_nil W b0 3 1
theorem impl_FirstJoined.LV.form {b0 : Nat} {W : World} {v : Value} {l : List Int} (h : impl_FirstJoined.LV b0 W v l) : (l = [] ∧ v = .slice none 0 0) ∨ ∃ g c cur, v = .slice (some ⟨g, 0, none⟩) l.length c ∧ b0 ≤ g ∧ W.heap[g]? = some (.cells cur 3 (0, 0)) := by
  rcases h.2 with ⟨h1, h2⟩ | ⟨g, c, cur, h1, h2, h3, _⟩
  · exact .inl ⟨List.length_eq_zero_iff.1 h2, h1⟩
  · exact .inr ⟨g, c, cur, h1, h2, h3⟩
theorem impl_FirstJoined.LV.kept {b0 Bb : Nat} {u : Value} {W W' : World} {v : Value} {l : List Int} (h : impl_FirstJoined.LV b0 W v l) (hb : Boxed W Bb 22 u) (hg : W.grownBy W' (some Bb)) : impl_FirstJoined.LV b0 W' v l := by
  refine World.ownsRow.kept h hg ?_
  rcases impl_FirstJoined.LV.form h with ⟨_, rfl⟩ | ⟨g, c, cur, rfl, _, hc⟩
  · exact .inl rfl
  · refine .inr (fun e => ?_)
    simp only [Value.ownBlock, Option.some.injEq] at e
    subst e
    unfold Boxed at hb
    rw [hc] at hb
    simp at hb
/-- What lies in the boxes. -/
structure impl_FirstJoined.Fx (w0 : World) (Bl Bg Br Bb Bp Bc : Nat) (gap lap rest : Int) (vp : Value) (W : World) (best : Option (List Int)) (vb : Value) : Prop where
  b0 : Below w0.heap.size w0 W
  cl : Boxed W Bl 3 (.int .i64 lap)
  cg : Boxed W Bg 3 (.int .i64 gap)
  cr : Boxed W Br 3 (.int .i64 rest)
  cb : Boxed W Bb 22 vb
  cp : Boxed W Bp 22 vp
  cc : Boxed W Bc 40 (.func (.func 28) #[] #[.pointer (some ⟨Bl, 0, none⟩), .pointer (some ⟨Bg, 0, none⟩), .pointer (some ⟨Br, 0, none⟩), .pointer (some ⟨Bb, 0, none⟩), .pointer (some ⟨Bp, 0, none⟩), .pointer (some ⟨Bc, 0, none⟩)])
  hne : Bb ≠ Bp
  hbb : w0.heap.size ≤ Bb
  hn : best = none → vb = .slice none 0 0
  hs : ∀ l, best = some l → l ≠ [] ∧ impl_FirstJoined.LV w0.heap.size W vb l
theorem impl_FirstJoined.Fx.same {w0 W W' : World} {Bl Bg Br Bb Bp Bc : Nat} {gap lap rest : Int} {vp : Value} {best : Option (List Int)} {vb : Value} (h : impl_FirstJoined.Fx w0 Bl Bg Br Bb Bp Bc gap lap rest vp W best vb) (hg : W.grownBy W' none) : impl_FirstJoined.Fx w0 Bl Bg Br Bb Bp Bc gap lap rest vp W' best vb :=
  ⟨h.b0.grown hg (below_size h.b0) (fun k hk => by cases hk), h.cl.kept hg (by simp), h.cg.kept hg (by simp), h.cr.kept hg (by simp), h.cb.kept hg (by simp), h.cp.kept hg (by simp), h.cc.kept hg (by simp), h.hne, h.hbb, h.hn, fun l hl => ⟨(h.hs l hl).1, World.ownsRow.kept (h.hs l hl).2 hg (by
    rcases impl_FirstJoined.LV.form (h.hs l hl).2 with ⟨_, e⟩ | ⟨g, c, cur, e, _⟩
    · subst e; exact .inl rfl
    · subst e; exact .inr (by simp [Value.ownBlock]))⟩⟩
theorem impl_FirstJoined.Boxed_ne {W : World} {A B : Nat} {t t' : TypeId} {u v : Value} (h : Boxed W A t u) (h' : Boxed W B t' v) (hne : t ≠ t') : A ≠ B := by
  rintro rfl
  unfold Boxed at h h'
  rw [h] at h'
  simp at h'
  exact hne h'.2
theorem impl_FirstJoined.Fx.put {w0 W : World} {Bl Bg Br Bb Bp Bc : Nat} {gap lap rest : Int} {vp : Value} {best : Option (List Int)} {vb v : Value} {l : List Int} (h : impl_FirstJoined.Fx w0 Bl Bg Br Bb Bp Bc gap lap rest vp W best vb) (hl : l ≠ []) (hv : impl_FirstJoined.LV w0.heap.size W v l) : impl_FirstJoined.Fx w0 Bl Bg Br Bb Bp Bc gap lap rest vp (W.setCell ⟨Bb, 0, none⟩ v) (some l) v := by
  refine ⟨Below.setCell (p := ⟨Bb, 0, none⟩) h.b0 h.hbb _, h.cl.other (impl_FirstJoined.Boxed_ne h.cl h.cb (by decide)) _, h.cg.other (impl_FirstJoined.Boxed_ne h.cg h.cb (by decide)) _, h.cr.other (impl_FirstJoined.Boxed_ne h.cr h.cb (by decide)) _, h.cb.set _, h.cp.other (Ne.symm h.hne) _, h.cc.other (impl_FirstJoined.Boxed_ne h.cc h.cb (by decide)) _, h.hne, h.hbb, fun e => by simp at e, fun l' e => ?_⟩
  obtain rfl := Option.some.inj e
  exact ⟨hl, hv.kept h.cb (grownBy_setCell' W Bb v)⟩
theorem impl_FirstJoined.clone (b0 : Nat) (W : World) (v : Value) (l : List Int) (h : impl_FirstJoined.LV b0 W v l) (hb : b0 ≤ W.heap.size) (hl : l.length ≤ 100) :
    Calls Try.prog 29 #[v] W fun e w' => ∃ v', e = .returned v' ∧ impl_FirstJoined.LV b0 w' v' l ∧ Below W.heap.size W w' ∧ (∀ k, v'.ownBlock = some k → W.heap.size ≤ k) := by
  rcases impl_FirstJoined.LV.form h with ⟨rfl, rfl⟩ | ⟨g, c, cur, rfl, _⟩
  · refine (AnyE.slices_Clone_nil Try.laysClone 0 0 W).mono ?_
    rintro e w' ⟨rfl, rfl⟩
    exact ⟨_, rfl, impl_FirstJoined.LV.nil _ _, Below.refl _ _, fun k hk => by simp [Value.ownBlock] at hk⟩
  · obtain ⟨i0, hi0, hi1⟩ := Option.map_eq_some_iff.1 info3
    simp only [Prod.mk.injEq] at hi1
    refine (AnyE.slices_Clone Try.laysClone i0 (.int .i64 0) 1 8 hi0 hi1.1 hi1.2.1 hi1.2.2 rfl (by decide) Try.sizeOf3 g 0 l.length c (l.map (Value.int .i64)) W (by simp) (by unfold maxLen; omega) (by omega) ?_ (fun u hu => ?_)).mono ?_
    · intro j u hj
      have := h.cells (g := g) rfl j u hj
      rwa [Addr.add_lit] at this
    · obtain ⟨x, _, rfl⟩ := List.mem_map.1 hu; rfl
    · rintro e w' ⟨v', rfl, ho, _, hbw⟩
      refine ⟨v', rfl, ⟨ho.1, ?_⟩, hbw, fun k hk => (ho.lt k hk).1⟩
      rcases ho.2 with hn | ⟨g', c', cur', e1, e2, e3⟩
      · exact .inl hn
      · exact .inr ⟨g', c', cur', e1, Nat.le_trans hb e2, e3⟩
theorem impl_FirstJoined.wpOp_of {P : Program} {ops : Array Oper} {Q : Exit → Act → World → Prop} {i : Nat} {K : Act → World → Prop} {a : Act} {w : World} {o : Oper} (ho : ops[i]? = some o) (h : ∀ (K' : Act → World → Prop), (∀ a' w', K a' w' → K' a' w') → (if Region.wanted o (yielded ops a.tmps) then o.wp P a w K' Q ∨ (o.asks P a w ∧ LetsOut Q) else K' (a.put o.dst undef) w)) : wpOp P ops Q i K a w := by
  unfold Go.wpOp
  rw [ho]
  exact h K (fun _ _ h => h)
/-- What holds within the drawn region of a round. -/
structure impl_FirstJoined.RS (w0 wr : World) (Bl Bg Br Bb Bp Bc : Nat) (gap lap rest : Int) (vp CF V0 : Value) (ad : Addr) (list : List Int) (i long x : Int) (best : Option (List Int)) (L : Nat → Bool) (v49 v50 v51 v52 v53 v54 v55 v56 v57 v58 v59 v60 v61 v62 v63 : Value) (W : World) : Prop where
  hb : L 14 = false → Below wr.heap.size wr W
  e14 : L 14 = true → ∃ vb', impl_FirstJoined.Fx w0 Bl Bg Br Bb Bp Bc gap lap rest vp W best vb' ∧ wr.grownBy W (some Bb)
  h0 : L 0 = true → v49 = CF
  h1 : L 1 = true → v50 = V0
  h2 : L 2 = true → L 5 = false → impl_FirstJoined.LV w0.heap.size W v51 list ∧ ∀ k, v51.ownBlock = some k → wr.heap.size ≤ k
  h3 : L 3 = true → v52 = .int .i64 i
  h4 : L 4 = true → L 5 = false → ∃ g, v53 = .slice (some ⟨g, 0, none⟩) 1 1 ∧ W.heap[g]? = some (.cells #[.int .i64 i] 3 (0, 0))
  h5 : L 5 = true → L 14 = false → impl_FirstJoined.LV w0.heap.size W v54 (list ++ [i])
  h6 : L 6 = true → v55 = .int .i64 i
  h7 : L 7 = true → v56 = .int .i64 (i + 1)
  h8 : L 8 = true → v57 = .int .i64 long
  h9 : L 9 = true → v58 = vp
  h10 : L 10 = true → v59 = .int .i64 i
  h11 : L 11 = true → v60 = .pointer (some (ad.add i.toNat))
  h12 : L 12 = true → v61 = .int .i64 x
  h13 : L 13 = true → v62 = .int .i64 (long + x)
  o5 : L 5 = true → L 2 = true ∧ L 4 = true
  o14 : L 14 = true → L 5 = true
theorem impl_FirstJoined.grown_of_below {W W' : World} (hb : Below W.heap.size W W') (row : Option Nat) : W.grownBy W' row := ⟨hb.os, hb.tape, hb.output, hb.size, fun k hk _ => hb.block k hk⟩
theorem impl_FirstJoined.LV.below {b0 : Nat} {W W' : World} {v : Value} {l : List Int} (h : impl_FirstJoined.LV b0 W v l) (hb : Below W.heap.size W W') : impl_FirstJoined.LV b0 W' v l := by
  refine World.ownsRow.kept h (impl_FirstJoined.grown_of_below hb none) ?_
  rcases impl_FirstJoined.LV.form h with ⟨_, e⟩ | ⟨g, c, cur, e, _⟩
  · subst e; exact .inl rfl
  · subst e; exact .inr (by simp [Value.ownBlock])
theorem impl_FirstJoined.RS.world {w0 wr W W' : World} {Bl Bg Br Bb Bp Bc : Nat} {gap lap rest : Int} {vp CF V0 : Value} {ad : Addr} {list : List Int} {i long x : Int} {best : Option (List Int)} {L : Nat → Bool} {v49 v50 v51 v52 v53 v54 v55 v56 v57 v58 v59 v60 v61 v62 v63 : Value} (H : impl_FirstJoined.RS w0 wr Bl Bg Br Bb Bp Bc gap lap rest vp CF V0 ad list i long x best L v49 v50 v51 v52 v53 v54 v55 v56 v57 v58 v59 v60 v61 v62 v63 W) (h14 : L 14 = false) (hk : Below W.heap.size W W') : impl_FirstJoined.RS w0 wr Bl Bg Br Bb Bp Bc gap lap rest vp CF V0 ad list i long x best L v49 v50 v51 v52 v53 v54 v55 v56 v57 v58 v59 v60 v61 v62 v63 W' :=
  ⟨fun hl => below_step (H.hb hl) hk, (fun hl => by rw [h14] at hl; cases hl), H.h0, H.h1, fun hl hl5 => ⟨(H.h2 hl hl5).1.below hk, (H.h2 hl hl5).2⟩, H.h3, fun hl hl5 => by
    obtain ⟨g, e, hg⟩ := H.h4 hl hl5
    exact ⟨g, e, (hk.block g (Array.getElem?_eq_some_iff.1 hg).1).trans hg⟩, fun hl hl5 => (H.h5 hl hl5).below hk, H.h6, H.h7, H.h8, H.h9, H.h10, H.h11, H.h12, H.h13, H.o5, H.o14⟩
/-- The bounds within which no number wraps. -/
def impl_FirstJoined.bnd (gap lap rest : Int) (pl : List Int) : Prop := (0 ≤ gap ∧ gap ≤ 1000) ∧ (0 ≤ rest ∧ rest ≤ 1000) ∧ (0 ≤ lap ∧ lap ≤ 1000) ∧ (1 ≤ pl.length ∧ pl.length ≤ 100) ∧ ∀ i : Nat, i < pl.length → 0 ≤ rd pl (i : Int) ∧ rd pl (i : Int) ≤ 1000
set_option maxHeartbeats 8000000 in
set_option maxRecDepth 100000 in
theorem impl_FirstJoined.choose (gap lap rest : Int) (pl : List Int) (hbnd : impl_FirstJoined.bnd gap lap rest pl) (w0 : World) (ad : Addr) (c1 : Nat) (hrow : ∀ i : Nat, i < pl.length → w0.cell? (ad.add i) = some (.int .i64 (rd pl (i : Int)))) (Bl Bg Br Bb Bp Bc : Nat) (d : Nat) :
    ∀ (list : List Int) (long : Int) (best : Option (List Int)) (v vb : Value) (W : World), d ≤ pl.length → list.length + d ≤ 100 → 0 ≤ long → long ≤ 1000 * list.length → impl_FirstJoined.LV w0.heap.size W v list → (list = [] → v = .slice none 0 0) → impl_FirstJoined.Fx w0 Bl Bg Br Bb Bp Bc gap lap rest (.slice (some ad) pl.length c1) W best vb →
    Calls Try.prog 28 #[v, .int .i64 ((pl.length : Int) - d), .int .i64 long, .pointer (some ⟨Bl, 0, none⟩), .pointer (some ⟨Bg, 0, none⟩), .pointer (some ⟨Br, 0, none⟩), .pointer (some ⟨Bb, 0, none⟩), .pointer (some ⟨Bp, 0, none⟩), .pointer (some ⟨Bc, 0, none⟩)] W fun e W' => e = .returned (.tuple #[]) ∧ ∃ vb', impl_FirstJoined.Fx w0 Bl Bg Br Bb Bp Bc gap lap rest (.slice (some ad) pl.length c1) W' (impl_FirstJoined.lo gap lap rest pl d list long (impl_FirstJoined.upd gap lap rest list long best)) vb' ∧ W.grownBy W' (some Bb) := by
  induction d using Nat.strongRecOn with
  | ind d ih =>
  intro list long best v vb W hd hld hl0 hl1 hv hvn hF
  have HF := Aside0.mk hF
  have HV := Aside0.mk hv
  have IH := Aside0.mk ih
  have HB := Aside0.mk hbnd
  have HR := Aside0.mk hrow
  have q22 : ∀ (w : World) (a : Option Addr) (n c n' c' : Nat), (binOp .eql 22 (.slice a n c) (.slice none n' c')).run Try.prog w = .ok (.bool a.isNone) w := fun w a n c n' c' => Lib.run_eql_slice_nil w _ _ a n c n' c' Try.underlying22
  have q1 := hF.cl.cell
  have q2 := hF.cg.cell
  have q3 := hF.cr.cell
  have q4 := hF.cb.cell
  have q5 := hF.cp.cell
  have q6 := hF.cc.cell
  have q7 := hF.cb.frozen
  clear hF hv ih hbnd hrow
  rcases impl_FirstJoined.LV.form HV.out with ⟨rfl, rfl⟩ | ⟨g, c, cur, rfl, _⟩
  · have hu : impl_FirstJoined.upd gap lap rest [] long best = best := by unfold impl_FirstJoined.upd; rw [if_neg (by simp)]
    rw [hu]
    go_enter Try.func28, Try.ntmps28
    go_wp2
    have HF2 := HF
    have HG2 := Aside0.mk (World.grownBy.refl W (some Bb))
    go_loopg [12] d (fun kq v12 w' => ∃ (bi : Option (List Int)) (vi : Value), v12 = .int .i64 ((pl.length : Int) - (kq : Int)) ∧ Aside0 (kq ≤ d) ∧ Aside0 (impl_FirstJoined.lo gap lap rest pl kq ([] : List Int) long bi = impl_FirstJoined.lo gap lap rest pl d ([] : List Int) long best) ∧ Aside0 (impl_FirstJoined.Fx w0 Bl Bg Br Bb Bp Bc gap lap rest (.slice (some ad) pl.length c1) w' bi vi) ∧ Aside0 (W.grownBy w' (some Bb)))
    case atStart => exact ⟨_, _, rfl, ⟨Nat.le_refl _⟩, ⟨rfl⟩, HF2, HG2⟩
    case round =>
      obtain ⟨bi, vi, rfl, HK, HE, HFi, HG⟩ := hrel
      have p1 := HFi.out.cl.cell
      have p4 := HFi.out.cb.cell
      have p5 := HFi.out.cp.cell
      have p6 := HFi.out.cc.cell
      have p7 := HFi.out.b0
      cases gk with
      | zero =>
        have hd1 : decide ((pl.length : Int) - ((0 : Nat) : Int) < (pl.length : Int)) = false := decide_eq_false (by omega)
        go_wp2
        go_end0
        exact ⟨rfl, vi, by have := HE.out; simp only [impl_FirstJoined.lo] at this; rw [← this]; exact HFi.out, HG.out⟩
      | succ k1 =>
        have hd1 : decide ((pl.length : Int) - ((k1 + 1 : Nat) : Int) < (pl.length : Int)) = true := decide_eq_true (by omega)
        go_wp2
        obtain ⟨i, hi⟩ : ∃ i : Int, (pl.length : Int) - ((k1 + 1 : Nat) : Int) = i := ⟨_, rfl⟩
        have hk1d : k1 < d := by have := HK.out; omega
        have HI2 := Aside0.mk (show i + 1 = (pl.length : Int) - (k1 : Int) by omega)
        have hi0 : 0 ≤ i := by omega
        have hi1 : i < (pl.length : Int) := by omega
        obtain ⟨x, hx⟩ : ∃ x : Int, rd pl i = x := ⟨_, rfl⟩
        have hxr := HR.out i.toNat (by omega)
        have hxb := HB.out.2.2.2.2 i.toNat (by omega)
        have hpl := HB.out.2.2.2.1.2
        rw [show ((i.toNat : Nat) : Int) = i by omega, hx] at hxr hxb
        have wi1 : wrap64 (i + 1) = i + 1 := by unfold wrap64; omega
        have wi1' : IntKind.i64.wrap (i + 1) = i + 1 := (i64_w _).trans wi1
        have wx1 : wrap64 (long + x) = long + x := by unfold wrap64; omega
        have wx1' : IntKind.i64.wrap (long + x) = long + x := (i64_w _).trans wx1
        have HLEN := Aside0.mk (show ([] : List Int).length ≤ 100 by omega)
        have HVr := Aside0.mk (HV.out.kept HF.out.cb HG.out)
        have HSZ := Aside0.mk (below_size HFi.out.b0)
        have HE2 := HE.out
        simp only [impl_FirstJoined.lo] at HE2
        rw [hi, hx] at HE2
        have HE3 := Aside0.mk HE2
        clear HE2
        rw [hi]
        have hdec : decide ((pl.length : Int) - ((k1 : Int) + 1) < (pl.length : Int)) = true := decide_eq_true (by omega)
        rw [hdec]
        refine region_inv (J := fun L a Wc => ∃ v49 v50 v51 v52 v53 v54 v55 v56 v57 v58 v59 v60 v61 v62 v63 : Value, a = { tmps := #[Value.slice none 0 0, Value.int IntKind.i64 ((pl.length : Int) - (d : Int)), Value.int IntKind.i64 long, Value.pointer (some ⟨Bl, 0, none⟩), Value.pointer (some ⟨Bg, 0, none⟩), Value.pointer (some ⟨Br, 0, none⟩), Value.pointer (some ⟨Bb, 0, none⟩), Value.pointer (some ⟨Bp, 0, none⟩), Value.pointer (some ⟨Bc, 0, none⟩), undef, undef, undef, Value.int IntKind.i64 i, Value.slice none 0 0, Value.int IntKind.i64 0, Value.bool false, Value.bool false, undef, undef, undef, undef, undef, undef, undef, undef, undef, undef, undef, undef, Value.bool false, Value.bool false, undef, undef, undef, undef, undef, undef, undef, undef, undef, Value.bool false, undef, Value.int IntKind.i64 ((pl.length : Int) - (d : Int)), Value.int IntKind.i64 i, Value.slice (some ad) pl.length c1, Value.int IntKind.i64 (pl.length : Int), Value.bool true, u47, u48, v49, v50, v51, v52, v53, v54, v55, v56, v57, v58, v59, v60, v61, v62, v63], defers := [] } ∧ impl_FirstJoined.RS w0 wr Bl Bg Br Bb Bp Bc gap lap rest (.slice (some ad) pl.length c1) (.func (.func 28) #[] #[.pointer (some ⟨Bl, 0, none⟩), .pointer (some ⟨Bg, 0, none⟩), .pointer (some ⟨Br, 0, none⟩), .pointer (some ⟨Bb, 0, none⟩), .pointer (some ⟨Bp, 0, none⟩), .pointer (some ⟨Bc, 0, none⟩)]) (.slice none 0 0) ad ([] : List Int) i long x (impl_FirstJoined.lo gap lap rest pl k1 (([] : List Int) ++ [i]) (long + x) (impl_FirstJoined.upd gap lap rest (([] : List Int) ++ [i]) (long + x) bi)) L v49 v50 v51 v52 v53 v54 v55 v56 v57 v58 v59 v60 v61 v62 v63 Wc) (by kernel_rfl) (by kernel_rfl) ?start ?step ?fin
        case start => exact ⟨_, _, _, _, _, _, _, _, _, _, _, _, _, _, _, rfl, ⟨fun _ => below_drew1 (Below.refl _ _), nofun, nofun, nofun, nofun, nofun, nofun, nofun, nofun, nofun, nofun, nofun, nofun, nofun, nofun, nofun, nofun, nofun⟩⟩
        case fin =>
          rintro L a Wc hall ⟨v49, v50, v51, v52, v53, v54, v55, v56, v57, v58, v59, v60, v61, v62, v63, rfl, H⟩
          obtain ⟨vb', hF', hg'⟩ := H.e14 (hall 14 (by decide))
          have HF4 := Aside0.mk hF'
          have HG4 := Aside0.mk (HG.out.trans hg')
          obtain rfl := H.h3 (hall 3 (by decide))
          clear H hall hF' hg'
          go_wp2
          go_roundg k1
          case measure => omega
          case rel => exact ⟨_, vb', by first | rfl | rw [HI2.out] | (rw [← HI2.out]), ⟨by omega⟩, ⟨HE3.out⟩, HF4, HG4⟩
        case step =>
          rintro L a Wc j o ho hL hp ⟨v49, v50, v51, v52, v53, v54, v55, v56, v57, v58, v59, v60, v61, v62, v63, rfl, H⟩
          have hj : j < 15 := (Array.getElem?_eq_some_iff.1 ho).1
          have hcell : Wc.cell? ⟨Bc, 0, none⟩ = some (.func (.func 28) #[] #[.pointer (some ⟨Bl, 0, none⟩), .pointer (some ⟨Bg, 0, none⟩), .pointer (some ⟨Br, 0, none⟩), .pointer (some ⟨Bb, 0, none⟩), .pointer (some ⟨Bp, 0, none⟩), .pointer (some ⟨Bc, 0, none⟩)]) ∧ Wc.cell? ⟨Bp, 0, none⟩ = some (.slice (some ad) pl.length c1) ∧ Wc.cell? (ad.add i.toNat) = some (.int .i64 x) := by
            cases e : L 14 with
            | false =>
              have hF2 := HFi.out.same (impl_FirstJoined.grown_of_below (H.hb e) none)
              exact ⟨hF2.cc.cell, hF2.cp.cell, (hF2.b0.cell (World.block_lt_of_cell? w0 _ hxr)).trans hxr⟩
            | true =>
              obtain ⟨_, hF2, _⟩ := H.e14 e
              exact ⟨hF2.cc.cell, hF2.cp.cell, (hF2.b0.cell (World.block_lt_of_cell? w0 _ hxr)).trans hxr⟩
          obtain ⟨hc1, hc2, hc3⟩ := hcell
          rcases (show j = 0 ∨ j = 1 ∨ j = 2 ∨ j = 3 ∨ j = 4 ∨ j = 5 ∨ j = 6 ∨ j = 7 ∨ j = 8 ∨ j = 9 ∨ j = 10 ∨ j = 11 ∨ j = 12 ∨ j = 13 ∨ j = 14 by omega) with rfl | rfl | rfl | rfl | rfl | rfl | rfl | rfl | rfl | rfl | rfl | rfl | rfl | rfl | rfl
          all_goals (obtain rfl : _ = o := Option.some.inj (show some _ = some o from ho); simp [Region.binds] at hp; refine impl_FirstJoined.wpOp_of rfl (fun K hK => ?_))
          · -- operation 0
            go_simp
            refine Or.inl ?_
            have H1 := H
            refine hK _ _ ⟨_, v50, v51, v52, v53, v54, v55, v56, v57, v58, v59, v60, v61, v62, v63, rfl, ⟨?_, ?_, ?_, ?_, ?_, ?_, ?_, ?_, ?_, ?_, ?_, ?_, ?_, ?_, ?_, ?_, ?_, ?_⟩⟩
            · exact fun hl => H1.hb (by simpa using hl)
            · exact fun hl => H1.e14 (by simpa using hl)
            · exact fun _ => by first | rfl | rw [HI2.out] | (rw [← HI2.out])
            · exact fun hl => H1.h1 (by simpa using hl)
            · exact fun hl hl5 => H1.h2 (by simpa using hl) (by simpa using hl5)
            · exact fun hl => H1.h3 (by simpa using hl)
            · exact fun hl hl5 => H1.h4 (by simpa using hl) (by simpa using hl5)
            · exact fun hl hl5 => H1.h5 (by simpa using hl) (by simpa using hl5)
            · exact fun hl => H1.h6 (by simpa using hl)
            · exact fun hl => H1.h7 (by simpa using hl)
            · exact fun hl => H1.h8 (by simpa using hl)
            · exact fun hl => H1.h9 (by simpa using hl)
            · exact fun hl => H1.h10 (by simpa using hl)
            · exact fun hl => H1.h11 (by simpa using hl)
            · exact fun hl => H1.h12 (by simpa using hl)
            · exact fun hl => H1.h13 (by simpa using hl)
            · exact fun hl => by have := H1.o5 (by simpa using hl); simp [this]
            · exact fun hl => by have := H1.o14 (by simpa using hl); simp [this]
          · -- operation 1
            go_simp
            refine Or.inl ?_
            have H1 := H
            refine hK _ _ ⟨v49, _, v51, v52, v53, v54, v55, v56, v57, v58, v59, v60, v61, v62, v63, rfl, ⟨?_, ?_, ?_, ?_, ?_, ?_, ?_, ?_, ?_, ?_, ?_, ?_, ?_, ?_, ?_, ?_, ?_, ?_⟩⟩
            · exact fun hl => H1.hb (by simpa using hl)
            · exact fun hl => H1.e14 (by simpa using hl)
            · exact fun hl => H1.h0 (by simpa using hl)
            · exact fun _ => by first | rfl | rw [HI2.out] | (rw [← HI2.out])
            · exact fun hl hl5 => H1.h2 (by simpa using hl) (by simpa using hl5)
            · exact fun hl => H1.h3 (by simpa using hl)
            · exact fun hl hl5 => H1.h4 (by simpa using hl) (by simpa using hl5)
            · exact fun hl hl5 => H1.h5 (by simpa using hl) (by simpa using hl5)
            · exact fun hl => H1.h6 (by simpa using hl)
            · exact fun hl => H1.h7 (by simpa using hl)
            · exact fun hl => H1.h8 (by simpa using hl)
            · exact fun hl => H1.h9 (by simpa using hl)
            · exact fun hl => H1.h10 (by simpa using hl)
            · exact fun hl => H1.h11 (by simpa using hl)
            · exact fun hl => H1.h12 (by simpa using hl)
            · exact fun hl => H1.h13 (by simpa using hl)
            · exact fun hl => by have := H1.o5 (by simpa using hl); simp [this]
            · exact fun hl => by have := H1.o14 (by simpa using hl); simp [this]
          · -- operation 2
            obtain rfl := H.h1 hp
            have h14 : L 14 = false := by cases e : L 14 with | false => rfl | true => exact absurd (H.o5 (H.o14 e)).1 (by simp [hL])
            have hbc := H.hb h14
            go_simp
            refine Or.inl ?_
            refine (impl_FirstJoined.clone w0.heap.size Wc _ ([] : List Int) (HVr.out.below hbc) (Nat.le_trans HSZ.out hbc.size) HLEN.out).mono ?_
            rintro e w' ⟨v', rfl, hlv, hbw, hfr⟩
            have H1 := H.world h14 hbw
            refine hK _ _ ⟨v49, _, _, v52, v53, v54, v55, v56, v57, v58, v59, v60, v61, v62, v63, rfl, ⟨?_, ?_, ?_, ?_, ?_, ?_, ?_, ?_, ?_, ?_, ?_, ?_, ?_, ?_, ?_, ?_, ?_, ?_⟩⟩
            · exact fun hl => H1.hb (by simpa using hl)
            · exact fun hl => H1.e14 (by simpa using hl)
            · exact fun hl => H1.h0 (by simpa using hl)
            · exact fun hl => H1.h1 (by simpa using hl)
            · exact fun _ _ => ⟨hlv, fun k hk => Nat.le_trans hbc.size (hfr k hk)⟩
            · exact fun hl => H1.h3 (by simpa using hl)
            · exact fun hl hl5 => H1.h4 (by simpa using hl) (by simpa using hl5)
            · exact fun hl hl5 => H1.h5 (by simpa using hl) (by simpa using hl5)
            · exact fun hl => H1.h6 (by simpa using hl)
            · exact fun hl => H1.h7 (by simpa using hl)
            · exact fun hl => H1.h8 (by simpa using hl)
            · exact fun hl => H1.h9 (by simpa using hl)
            · exact fun hl => H1.h10 (by simpa using hl)
            · exact fun hl => H1.h11 (by simpa using hl)
            · exact fun hl => H1.h12 (by simpa using hl)
            · exact fun hl => H1.h13 (by simpa using hl)
            · exact fun hl => by have := H1.o5 (by simpa using hl); simp [this]
            · exact fun hl => by have := H1.o14 (by simpa using hl); simp [this]
          · -- operation 3
            go_simp
            refine Or.inl ?_
            have H1 := H
            refine hK _ _ ⟨v49, v50, v51, _, v53, v54, v55, v56, v57, v58, v59, v60, v61, v62, v63, rfl, ⟨?_, ?_, ?_, ?_, ?_, ?_, ?_, ?_, ?_, ?_, ?_, ?_, ?_, ?_, ?_, ?_, ?_, ?_⟩⟩
            · exact fun hl => H1.hb (by simpa using hl)
            · exact fun hl => H1.e14 (by simpa using hl)
            · exact fun hl => H1.h0 (by simpa using hl)
            · exact fun hl => H1.h1 (by simpa using hl)
            · exact fun hl hl5 => H1.h2 (by simpa using hl) (by simpa using hl5)
            · exact fun _ => by first | rfl | rw [HI2.out] | (rw [← HI2.out])
            · exact fun hl hl5 => H1.h4 (by simpa using hl) (by simpa using hl5)
            · exact fun hl hl5 => H1.h5 (by simpa using hl) (by simpa using hl5)
            · exact fun hl => H1.h6 (by simpa using hl)
            · exact fun hl => H1.h7 (by simpa using hl)
            · exact fun hl => H1.h8 (by simpa using hl)
            · exact fun hl => H1.h9 (by simpa using hl)
            · exact fun hl => H1.h10 (by simpa using hl)
            · exact fun hl => H1.h11 (by simpa using hl)
            · exact fun hl => H1.h12 (by simpa using hl)
            · exact fun hl => H1.h13 (by simpa using hl)
            · exact fun hl => by have := H1.o5 (by simpa using hl); simp [this]
            · exact fun hl => by have := H1.o14 (by simpa using hl); simp [this]
          · -- operation 4
            obtain rfl := H.h3 hp
            have h14 : L 14 = false := by cases e : L 14 with | false => rfl | true => exact absurd (H.o5 (H.o14 e)).2 (by simp [hL])
            go_simp
            refine Or.inl ?_
            have H1 := H.world h14 (below_alloc (Below.refl _ _) (Obj.cells #[.int .i64 i] 3))
            refine hK _ _ ⟨v49, v50, v51, _, _, v54, v55, v56, v57, v58, v59, v60, v61, v62, v63, rfl, ⟨?_, ?_, ?_, ?_, ?_, ?_, ?_, ?_, ?_, ?_, ?_, ?_, ?_, ?_, ?_, ?_, ?_, ?_⟩⟩
            · exact fun hl => H1.hb (by simpa using hl)
            · exact fun hl => H1.e14 (by simpa using hl)
            · exact fun hl => H1.h0 (by simpa using hl)
            · exact fun hl => H1.h1 (by simpa using hl)
            · exact fun hl hl5 => H1.h2 (by simpa using hl) (by simpa using hl5)
            · exact fun hl => H1.h3 (by simpa using hl)
            · exact fun _ _ => ⟨Wc.heap.size, rfl, Boxed.new Wc _ _⟩
            · exact fun hl hl5 => H1.h5 (by simpa using hl) (by simpa using hl5)
            · exact fun hl => H1.h6 (by simpa using hl)
            · exact fun hl => H1.h7 (by simpa using hl)
            · exact fun hl => H1.h8 (by simpa using hl)
            · exact fun hl => H1.h9 (by simpa using hl)
            · exact fun hl => H1.h10 (by simpa using hl)
            · exact fun hl => H1.h11 (by simpa using hl)
            · exact fun hl => H1.h12 (by simpa using hl)
            · exact fun hl => H1.h13 (by simpa using hl)
            · exact fun hl => by have := H1.o5 (by simpa using hl); simp [this]
            · exact fun hl => by have := H1.o14 (by simpa using hl); simp [this]
          · -- operation 5
            have h14 : L 14 = false := by cases e : L 14 with | false => rfl | true => exact absurd (H.o14 e) (by simp [hL])
            obtain ⟨hlv, hfr⟩ := H.h2 hp.1 hL
            obtain ⟨gb5, rfl, hg5⟩ := H.h4 hp.2.1 hL
            obtain ⟨i0, hi0, hi1⟩ := Option.map_eq_some_iff.1 info3
            simp only [Prod.mk.injEq] at hi1
            rw [if_pos (by rfl)]
            refine Or.inl (wp_append_own Wc (.tmp 51) (.tmp 53) 22 rfl w0.heap.size 3 i0 (.int .i64 0) 1 8 Try.underlying22 hi0 hi1.1 hi1.2.1 hi1.2.2 rfl (by decide) v51 ([] : List Int).length (([] : List Int).map (Value.int .i64)) rfl hlv ⟨gb5, 0, none⟩ 1 1 [.int .i64 i] rfl rfl (fun j u hj => ?_) (fun u hu => ?_) (by have := HLEN.out; unfold maxLen; omega) (by have := HLEN.out; omega) (Nat.le_trans HSZ.out (H.hb h14).size) (fun v' w' hown hgr _ => ?_))
            · match j, hj with
              | 0, hj => (obtain rfl := Option.some.inj (show some _ = some u from hj); exact (Boxed.cell (t := 3) hg5))
            · simp only [List.mem_singleton] at hu; subst hu; rfl
            have H1 := H
            have hbg := (H.hb h14).grown hgr (H.hb h14).size (fun k hk => hfr k hk)
            refine hK _ _ ⟨v49, v50, v51, v52, _, _, v55, v56, v57, v58, v59, v60, v61, v62, v63, rfl, ⟨?_, ?_, ?_, ?_, ?_, ?_, ?_, ?_, ?_, ?_, ?_, ?_, ?_, ?_, ?_, ?_, ?_, ?_⟩⟩
            · exact fun _ => hbg
            · exact fun hl => by simp [h14] at hl
            · exact fun hl => H1.h0 (by simpa using hl)
            · exact fun hl => H1.h1 (by simpa using hl)
            · exact fun hl hl5 => by simp at hl5
            · exact fun hl => H1.h3 (by simpa using hl)
            · exact fun hl hl5 => by simp at hl5
            · exact fun _ _ => by have := hown; unfold impl_FirstJoined.LV; rw [List.length_append, List.map_append]; exact this
            · exact fun hl => H1.h6 (by simpa using hl)
            · exact fun hl => H1.h7 (by simpa using hl)
            · exact fun hl => H1.h8 (by simpa using hl)
            · exact fun hl => H1.h9 (by simpa using hl)
            · exact fun hl => H1.h10 (by simpa using hl)
            · exact fun hl => H1.h11 (by simpa using hl)
            · exact fun hl => H1.h12 (by simpa using hl)
            · exact fun hl => H1.h13 (by simpa using hl)
            · exact fun _ => by simp [hp]
            · exact fun hl => by simp
          · -- operation 6
            go_simp
            refine Or.inl ?_
            have H1 := H
            refine hK _ _ ⟨v49, v50, v51, v52, v53, v54, _, v56, v57, v58, v59, v60, v61, v62, v63, rfl, ⟨?_, ?_, ?_, ?_, ?_, ?_, ?_, ?_, ?_, ?_, ?_, ?_, ?_, ?_, ?_, ?_, ?_, ?_⟩⟩
            · exact fun hl => H1.hb (by simpa using hl)
            · exact fun hl => H1.e14 (by simpa using hl)
            · exact fun hl => H1.h0 (by simpa using hl)
            · exact fun hl => H1.h1 (by simpa using hl)
            · exact fun hl hl5 => H1.h2 (by simpa using hl) (by simpa using hl5)
            · exact fun hl => H1.h3 (by simpa using hl)
            · exact fun hl hl5 => H1.h4 (by simpa using hl) (by simpa using hl5)
            · exact fun hl hl5 => H1.h5 (by simpa using hl) (by simpa using hl5)
            · exact fun _ => by first | rfl | rw [HI2.out] | (rw [← HI2.out])
            · exact fun hl => H1.h7 (by simpa using hl)
            · exact fun hl => H1.h8 (by simpa using hl)
            · exact fun hl => H1.h9 (by simpa using hl)
            · exact fun hl => H1.h10 (by simpa using hl)
            · exact fun hl => H1.h11 (by simpa using hl)
            · exact fun hl => H1.h12 (by simpa using hl)
            · exact fun hl => H1.h13 (by simpa using hl)
            · exact fun hl => by have := H1.o5 (by simpa using hl); simp [this]
            · exact fun hl => by have := H1.o14 (by simpa using hl); simp [this]
          · -- operation 7
            obtain rfl := H.h6 hp
            go_simp
            refine Or.inl ?_
            have H1 := H
            refine hK _ _ ⟨v49, v50, v51, v52, v53, v54, _, _, v57, v58, v59, v60, v61, v62, v63, rfl, ⟨?_, ?_, ?_, ?_, ?_, ?_, ?_, ?_, ?_, ?_, ?_, ?_, ?_, ?_, ?_, ?_, ?_, ?_⟩⟩
            · exact fun hl => H1.hb (by simpa using hl)
            · exact fun hl => H1.e14 (by simpa using hl)
            · exact fun hl => H1.h0 (by simpa using hl)
            · exact fun hl => H1.h1 (by simpa using hl)
            · exact fun hl hl5 => H1.h2 (by simpa using hl) (by simpa using hl5)
            · exact fun hl => H1.h3 (by simpa using hl)
            · exact fun hl hl5 => H1.h4 (by simpa using hl) (by simpa using hl5)
            · exact fun hl hl5 => H1.h5 (by simpa using hl) (by simpa using hl5)
            · exact fun hl => H1.h6 (by simpa using hl)
            · exact fun _ => by first | rfl | rw [HI2.out] | (rw [← HI2.out])
            · exact fun hl => H1.h8 (by simpa using hl)
            · exact fun hl => H1.h9 (by simpa using hl)
            · exact fun hl => H1.h10 (by simpa using hl)
            · exact fun hl => H1.h11 (by simpa using hl)
            · exact fun hl => H1.h12 (by simpa using hl)
            · exact fun hl => H1.h13 (by simpa using hl)
            · exact fun hl => by have := H1.o5 (by simpa using hl); simp [this]
            · exact fun hl => by have := H1.o14 (by simpa using hl); simp [this]
          · -- operation 8
            go_simp
            refine Or.inl ?_
            have H1 := H
            refine hK _ _ ⟨v49, v50, v51, v52, v53, v54, v55, v56, _, v58, v59, v60, v61, v62, v63, rfl, ⟨?_, ?_, ?_, ?_, ?_, ?_, ?_, ?_, ?_, ?_, ?_, ?_, ?_, ?_, ?_, ?_, ?_, ?_⟩⟩
            · exact fun hl => H1.hb (by simpa using hl)
            · exact fun hl => H1.e14 (by simpa using hl)
            · exact fun hl => H1.h0 (by simpa using hl)
            · exact fun hl => H1.h1 (by simpa using hl)
            · exact fun hl hl5 => H1.h2 (by simpa using hl) (by simpa using hl5)
            · exact fun hl => H1.h3 (by simpa using hl)
            · exact fun hl hl5 => H1.h4 (by simpa using hl) (by simpa using hl5)
            · exact fun hl hl5 => H1.h5 (by simpa using hl) (by simpa using hl5)
            · exact fun hl => H1.h6 (by simpa using hl)
            · exact fun hl => H1.h7 (by simpa using hl)
            · exact fun _ => by first | rfl | rw [HI2.out] | (rw [← HI2.out])
            · exact fun hl => H1.h9 (by simpa using hl)
            · exact fun hl => H1.h10 (by simpa using hl)
            · exact fun hl => H1.h11 (by simpa using hl)
            · exact fun hl => H1.h12 (by simpa using hl)
            · exact fun hl => H1.h13 (by simpa using hl)
            · exact fun hl => by have := H1.o5 (by simpa using hl); simp [this]
            · exact fun hl => by have := H1.o14 (by simpa using hl); simp [this]
          · -- operation 9
            go_simp
            refine Or.inl ?_
            have H1 := H
            refine hK _ _ ⟨v49, v50, v51, v52, v53, v54, v55, v56, v57, _, v59, v60, v61, v62, v63, rfl, ⟨?_, ?_, ?_, ?_, ?_, ?_, ?_, ?_, ?_, ?_, ?_, ?_, ?_, ?_, ?_, ?_, ?_, ?_⟩⟩
            · exact fun hl => H1.hb (by simpa using hl)
            · exact fun hl => H1.e14 (by simpa using hl)
            · exact fun hl => H1.h0 (by simpa using hl)
            · exact fun hl => H1.h1 (by simpa using hl)
            · exact fun hl hl5 => H1.h2 (by simpa using hl) (by simpa using hl5)
            · exact fun hl => H1.h3 (by simpa using hl)
            · exact fun hl hl5 => H1.h4 (by simpa using hl) (by simpa using hl5)
            · exact fun hl hl5 => H1.h5 (by simpa using hl) (by simpa using hl5)
            · exact fun hl => H1.h6 (by simpa using hl)
            · exact fun hl => H1.h7 (by simpa using hl)
            · exact fun hl => H1.h8 (by simpa using hl)
            · exact fun _ => by first | rfl | rw [HI2.out] | (rw [← HI2.out])
            · exact fun hl => H1.h10 (by simpa using hl)
            · exact fun hl => H1.h11 (by simpa using hl)
            · exact fun hl => H1.h12 (by simpa using hl)
            · exact fun hl => H1.h13 (by simpa using hl)
            · exact fun hl => by have := H1.o5 (by simpa using hl); simp [this]
            · exact fun hl => by have := H1.o14 (by simpa using hl); simp [this]
          · -- operation 10
            go_simp
            refine Or.inl ?_
            have H1 := H
            refine hK _ _ ⟨v49, v50, v51, v52, v53, v54, v55, v56, v57, v58, _, v60, v61, v62, v63, rfl, ⟨?_, ?_, ?_, ?_, ?_, ?_, ?_, ?_, ?_, ?_, ?_, ?_, ?_, ?_, ?_, ?_, ?_, ?_⟩⟩
            · exact fun hl => H1.hb (by simpa using hl)
            · exact fun hl => H1.e14 (by simpa using hl)
            · exact fun hl => H1.h0 (by simpa using hl)
            · exact fun hl => H1.h1 (by simpa using hl)
            · exact fun hl hl5 => H1.h2 (by simpa using hl) (by simpa using hl5)
            · exact fun hl => H1.h3 (by simpa using hl)
            · exact fun hl hl5 => H1.h4 (by simpa using hl) (by simpa using hl5)
            · exact fun hl hl5 => H1.h5 (by simpa using hl) (by simpa using hl5)
            · exact fun hl => H1.h6 (by simpa using hl)
            · exact fun hl => H1.h7 (by simpa using hl)
            · exact fun hl => H1.h8 (by simpa using hl)
            · exact fun hl => H1.h9 (by simpa using hl)
            · exact fun _ => by first | rfl | rw [HI2.out] | (rw [← HI2.out])
            · exact fun hl => H1.h11 (by simpa using hl)
            · exact fun hl => H1.h12 (by simpa using hl)
            · exact fun hl => H1.h13 (by simpa using hl)
            · exact fun hl => by have := H1.o5 (by simpa using hl); simp [this]
            · exact fun hl => by have := H1.o14 (by simpa using hl); simp [this]
          · -- operation 11
            obtain rfl := H.h9 hp.1
            obtain rfl := H.h10 hp.2
            go_simp
            refine Or.inl ?_
            have H1 := H
            refine hK _ _ ⟨v49, v50, v51, v52, v53, v54, v55, v56, v57, _, _, _, v61, v62, v63, rfl, ⟨?_, ?_, ?_, ?_, ?_, ?_, ?_, ?_, ?_, ?_, ?_, ?_, ?_, ?_, ?_, ?_, ?_, ?_⟩⟩
            · exact fun hl => H1.hb (by simpa using hl)
            · exact fun hl => H1.e14 (by simpa using hl)
            · exact fun hl => H1.h0 (by simpa using hl)
            · exact fun hl => H1.h1 (by simpa using hl)
            · exact fun hl hl5 => H1.h2 (by simpa using hl) (by simpa using hl5)
            · exact fun hl => H1.h3 (by simpa using hl)
            · exact fun hl hl5 => H1.h4 (by simpa using hl) (by simpa using hl5)
            · exact fun hl hl5 => H1.h5 (by simpa using hl) (by simpa using hl5)
            · exact fun hl => H1.h6 (by simpa using hl)
            · exact fun hl => H1.h7 (by simpa using hl)
            · exact fun hl => H1.h8 (by simpa using hl)
            · exact fun hl => H1.h9 (by simpa using hl)
            · exact fun hl => H1.h10 (by simpa using hl)
            · exact fun _ => by first | rfl | rw [HI2.out] | (rw [← HI2.out])
            · exact fun hl => H1.h12 (by simpa using hl)
            · exact fun hl => H1.h13 (by simpa using hl)
            · exact fun hl => by have := H1.o5 (by simpa using hl); simp [this]
            · exact fun hl => by have := H1.o14 (by simpa using hl); simp [this]
          · -- operation 12
            obtain rfl := H.h11 hp
            go_simp
            refine Or.inl ?_
            have H1 := H
            refine hK _ _ ⟨v49, v50, v51, v52, v53, v54, v55, v56, v57, v58, v59, _, _, v62, v63, rfl, ⟨?_, ?_, ?_, ?_, ?_, ?_, ?_, ?_, ?_, ?_, ?_, ?_, ?_, ?_, ?_, ?_, ?_, ?_⟩⟩
            · exact fun hl => H1.hb (by simpa using hl)
            · exact fun hl => H1.e14 (by simpa using hl)
            · exact fun hl => H1.h0 (by simpa using hl)
            · exact fun hl => H1.h1 (by simpa using hl)
            · exact fun hl hl5 => H1.h2 (by simpa using hl) (by simpa using hl5)
            · exact fun hl => H1.h3 (by simpa using hl)
            · exact fun hl hl5 => H1.h4 (by simpa using hl) (by simpa using hl5)
            · exact fun hl hl5 => H1.h5 (by simpa using hl) (by simpa using hl5)
            · exact fun hl => H1.h6 (by simpa using hl)
            · exact fun hl => H1.h7 (by simpa using hl)
            · exact fun hl => H1.h8 (by simpa using hl)
            · exact fun hl => H1.h9 (by simpa using hl)
            · exact fun hl => H1.h10 (by simpa using hl)
            · exact fun hl => H1.h11 (by simpa using hl)
            · exact fun _ => by first | rfl | rw [HI2.out] | (rw [← HI2.out])
            · exact fun hl => H1.h13 (by simpa using hl)
            · exact fun hl => by have := H1.o5 (by simpa using hl); simp [this]
            · exact fun hl => by have := H1.o14 (by simpa using hl); simp [this]
          · -- operation 13
            obtain rfl := H.h8 hp.1
            obtain rfl := H.h12 hp.2
            go_simp
            refine Or.inl ?_
            have H1 := H
            refine hK _ _ ⟨v49, v50, v51, v52, v53, v54, v55, v56, _, v58, v59, v60, _, _, v63, rfl, ⟨?_, ?_, ?_, ?_, ?_, ?_, ?_, ?_, ?_, ?_, ?_, ?_, ?_, ?_, ?_, ?_, ?_, ?_⟩⟩
            · exact fun hl => H1.hb (by simpa using hl)
            · exact fun hl => H1.e14 (by simpa using hl)
            · exact fun hl => H1.h0 (by simpa using hl)
            · exact fun hl => H1.h1 (by simpa using hl)
            · exact fun hl hl5 => H1.h2 (by simpa using hl) (by simpa using hl5)
            · exact fun hl => H1.h3 (by simpa using hl)
            · exact fun hl hl5 => H1.h4 (by simpa using hl) (by simpa using hl5)
            · exact fun hl hl5 => H1.h5 (by simpa using hl) (by simpa using hl5)
            · exact fun hl => H1.h6 (by simpa using hl)
            · exact fun hl => H1.h7 (by simpa using hl)
            · exact fun hl => H1.h8 (by simpa using hl)
            · exact fun hl => H1.h9 (by simpa using hl)
            · exact fun hl => H1.h10 (by simpa using hl)
            · exact fun hl => H1.h11 (by simpa using hl)
            · exact fun hl => H1.h12 (by simpa using hl)
            · exact fun _ => by first | rfl | rw [HI2.out] | (rw [← HI2.out])
            · exact fun hl => by have := H1.o5 (by simpa using hl); simp [this]
            · exact fun hl => by have := H1.o14 (by simpa using hl); simp [this]
          · -- operation 14
            obtain rfl := H.h0 hp.1
            obtain rfl := H.h7 hp.2.2.1
            obtain rfl := H.h13 hp.2.2.2.1
            have hlv := H.h5 hp.2.1 hL
            have hbc := H.hb hL
            go_simp
            refine Or.inl ?_
            try rw [HI2.out]
            refine (IH.out k1 hk1d (([] : List Int) ++ [i]) (long + x) bi v54 vi Wc (by omega) (by rw [List.length_append, List.length_singleton]; omega) (by omega) (by rw [List.length_append, List.length_singleton]; omega) hlv (fun e => by simp at e) (HFi.out.same (impl_FirstJoined.grown_of_below hbc none))).mono ?_
            rintro e w' ⟨rfl, vb', hF', hg'⟩
            have H1 := H
            refine hK _ _ ⟨_, v50, v51, v52, v53, v54, v55, _, v57, v58, v59, v60, v61, _, _, rfl, ⟨?_, ?_, ?_, ?_, ?_, ?_, ?_, ?_, ?_, ?_, ?_, ?_, ?_, ?_, ?_, ?_, ?_, ?_⟩⟩
            · exact fun hl => by simp at hl
            · exact fun _ => ⟨vb', hF', (impl_FirstJoined.grown_of_below hbc (some Bb)).trans hg'⟩
            · exact fun hl => H1.h0 (by simpa using hl)
            · exact fun hl => H1.h1 (by simpa using hl)
            · exact fun _ hl5 => by simp [hp] at hl5
            · exact fun hl => H1.h3 (by simpa using hl)
            · exact fun _ hl5 => by simp [hp] at hl5
            · exact fun _ hl5 => by simp at hl5
            · exact fun hl => H1.h6 (by simpa using hl)
            · exact fun hl => by first | rfl | rw [HI2.out] | (rw [← HI2.out])
            · exact fun hl => H1.h8 (by simpa using hl)
            · exact fun hl => H1.h9 (by simpa using hl)
            · exact fun hl => H1.h10 (by simpa using hl)
            · exact fun hl => H1.h11 (by simpa using hl)
            · exact fun hl => H1.h12 (by simpa using hl)
            · exact fun hl => H1.h13 (by simpa using hl)
            · exact fun hl => by have := H1.o5 (by simpa using hl); simp [this]
            · exact fun _ => by simp [hp]
  · have hll : (0 : Int) < (list.length : Int) ∨ list.length = 0 := by omega
    rcases hll with hll | hll
    case inr =>
      have := hvn (List.length_eq_zero_iff.1 hll)
      cases this
    clear hvn
    have hbb := HB.out
    obtain ⟨⟨n1, n2⟩, ⟨n3, n4⟩, ⟨n5, n6⟩, _, _⟩ := hbb
    have hlx : list.length ≤ 100 := by omega
    obtain ⟨z, hz⟩ : ∃ z : Int, lap * ((list.length : Int) - 1) = z := ⟨_, rfl⟩
    have hz0 : 0 ≤ z ∧ z ≤ 100000 := by
      rw [← hz]
      exact ⟨Int.mul_nonneg n5 (by omega), Int.le_trans (Int.mul_le_mul n6 (show (list.length : Int) - 1 ≤ 100 by omega) (by omega) (by omega)) (by omega)⟩
    have w1 : wrap64 ((list.length : Int) - 1) = (list.length : Int) - 1 := by unfold wrap64; omega
    have w2 : wrap64 (lap * ((list.length : Int) - 1)) = z := by rw [hz]; unfold wrap64; omega
    have w3 : wrap64 (long - z) = long - z := by unfold wrap64; omega
    have w4 : wrap64 (2 * rest) = 2 * rest := by unfold wrap64; omega
    have w5 : wrap64 (gap + 2 * rest) = gap + 2 * rest := by unfold wrap64; omega
    have w1' : IntKind.i64.wrap ((list.length : Int) - 1) = (list.length : Int) - 1 := (i64_w _).trans w1
    have w2' : IntKind.i64.wrap (lap * ((list.length : Int) - 1)) = z := (i64_w _).trans w2
    have w3' : IntKind.i64.wrap (long - z) = long - z := (i64_w _).trans w3
    have w4' : IntKind.i64.wrap (2 * rest) = 2 * rest := (i64_w _).trans w4
    have w5' : IntKind.i64.wrap (gap + 2 * rest) = gap + 2 * rest := (i64_w _).trans w5
    have d0 : decide ((list.length : Int) > 0) = true := decide_eq_true hll
    by_cases cnd : gap + 2 * rest ≤ long - z
    · have d1 : decide (long - z ≥ gap + 2 * rest) = true := decide_eq_true cnd
      have hne : list ≠ [] := by intro e; subst e; simp at hll
      cases best with
      | none =>
        have hvb := HF.out.hn rfl
        subst hvb
        have hu : impl_FirstJoined.upd gap lap rest list long none = some list := by unfold impl_FirstJoined.upd; rw [if_pos ⟨by omega, by rw [hz]; exact cnd⟩]
        rw [hu]
        go_enter Try.func28, Try.ntmps28
        go_wp2
        have HF2 := Aside0.mk (HF.out.put hne HV.out)
        have HG2 := Aside0.mk (grownBy_setCell' W Bb (.slice (some ⟨g, 0, none⟩) list.length c))
        go_loopg [12] d (fun kq v12 w' => ∃ (bi : Option (List Int)) (vi : Value), v12 = .int .i64 ((pl.length : Int) - (kq : Int)) ∧ Aside0 (kq ≤ d) ∧ Aside0 (impl_FirstJoined.lo gap lap rest pl kq list long bi = impl_FirstJoined.lo gap lap rest pl d list long (some list)) ∧ Aside0 (impl_FirstJoined.Fx w0 Bl Bg Br Bb Bp Bc gap lap rest (.slice (some ad) pl.length c1) w' bi vi) ∧ Aside0 (W.grownBy w' (some Bb)))
        case atStart => exact ⟨_, _, rfl, ⟨Nat.le_refl _⟩, ⟨rfl⟩, HF2, HG2⟩
        case round =>
          obtain ⟨bi, vi, rfl, HK, HE, HFi, HG⟩ := hrel
          have p1 := HFi.out.cl.cell
          have p4 := HFi.out.cb.cell
          have p5 := HFi.out.cp.cell
          have p6 := HFi.out.cc.cell
          have p7 := HFi.out.b0
          cases gk with
          | zero =>
            have hd1 : decide ((pl.length : Int) - ((0 : Nat) : Int) < (pl.length : Int)) = false := decide_eq_false (by omega)
            go_wp2
            go_end0
            exact ⟨rfl, vi, by have := HE.out; simp only [impl_FirstJoined.lo] at this; rw [← this]; exact HFi.out, HG.out⟩
          | succ k1 =>
            have hd1 : decide ((pl.length : Int) - ((k1 + 1 : Nat) : Int) < (pl.length : Int)) = true := decide_eq_true (by omega)
            go_wp2
            obtain ⟨i, hi⟩ : ∃ i : Int, (pl.length : Int) - ((k1 + 1 : Nat) : Int) = i := ⟨_, rfl⟩
            have hk1d : k1 < d := by have := HK.out; omega
            have HI2 := Aside0.mk (show i + 1 = (pl.length : Int) - (k1 : Int) by omega)
            have hi0 : 0 ≤ i := by omega
            have hi1 : i < (pl.length : Int) := by omega
            obtain ⟨x, hx⟩ : ∃ x : Int, rd pl i = x := ⟨_, rfl⟩
            have hxr := HR.out i.toNat (by omega)
            have hxb := HB.out.2.2.2.2 i.toNat (by omega)
            have hpl := HB.out.2.2.2.1.2
            rw [show ((i.toNat : Nat) : Int) = i by omega, hx] at hxr hxb
            have wi1 : wrap64 (i + 1) = i + 1 := by unfold wrap64; omega
            have wi1' : IntKind.i64.wrap (i + 1) = i + 1 := (i64_w _).trans wi1
            have wx1 : wrap64 (long + x) = long + x := by unfold wrap64; omega
            have wx1' : IntKind.i64.wrap (long + x) = long + x := (i64_w _).trans wx1
            have HLEN := Aside0.mk (show list.length ≤ 100 by omega)
            have HVr := Aside0.mk (HV.out.kept HF.out.cb HG.out)
            have HSZ := Aside0.mk (below_size HFi.out.b0)
            have HE2 := HE.out
            simp only [impl_FirstJoined.lo] at HE2
            rw [hi, hx] at HE2
            have HE3 := Aside0.mk HE2
            clear HE2
            rw [hi]
            have hdec : decide ((pl.length : Int) - ((k1 : Int) + 1) < (pl.length : Int)) = true := decide_eq_true (by omega)
            rw [hdec]
            refine region_inv (J := fun L a Wc => ∃ v49 v50 v51 v52 v53 v54 v55 v56 v57 v58 v59 v60 v61 v62 v63 : Value, a = { tmps := #[Value.slice (some ⟨g, 0, none⟩) list.length c, Value.int IntKind.i64 ((pl.length : Int) - (d : Int)), Value.int IntKind.i64 long, Value.pointer (some ⟨Bl, 0, none⟩), Value.pointer (some ⟨Bg, 0, none⟩), Value.pointer (some ⟨Br, 0, none⟩), Value.pointer (some ⟨Bb, 0, none⟩), Value.pointer (some ⟨Bp, 0, none⟩), Value.pointer (some ⟨Bc, 0, none⟩), undef, undef, undef, Value.int IntKind.i64 i, Value.slice (some ⟨g, 0, none⟩) list.length c, Value.int IntKind.i64 (list.length : Int), Value.bool true, Value.bool true, Value.int IntKind.i64 long, Value.int IntKind.i64 lap, Value.slice (some ⟨g, 0, none⟩) list.length c, Value.int IntKind.i64 (list.length : Int), Value.int IntKind.i64 ((list.length : Int) - 1), Value.int IntKind.i64 z, Value.int IntKind.i64 (long - z), Value.int IntKind.i64 gap, Value.int IntKind.i64 rest, Value.int IntKind.i64 (2 * rest), Value.int IntKind.i64 (gap + 2 * rest), Value.bool true, Value.bool true, Value.bool true, Value.slice none 0 0, Value.bool true, Value.bool true, undef, undef, undef, undef, undef, Value.bool true, Value.bool true, Value.slice (some ⟨g, 0, none⟩) list.length c, Value.int IntKind.i64 ((pl.length : Int) - (d : Int)), Value.int IntKind.i64 i, Value.slice (some ad) pl.length c1, Value.int IntKind.i64 (pl.length : Int), Value.bool true, u47, u48, v49, v50, v51, v52, v53, v54, v55, v56, v57, v58, v59, v60, v61, v62, v63], defers := [] } ∧ impl_FirstJoined.RS w0 wr Bl Bg Br Bb Bp Bc gap lap rest (.slice (some ad) pl.length c1) (.func (.func 28) #[] #[.pointer (some ⟨Bl, 0, none⟩), .pointer (some ⟨Bg, 0, none⟩), .pointer (some ⟨Br, 0, none⟩), .pointer (some ⟨Bb, 0, none⟩), .pointer (some ⟨Bp, 0, none⟩), .pointer (some ⟨Bc, 0, none⟩)]) (.slice (some ⟨g, 0, none⟩) list.length c) ad list i long x (impl_FirstJoined.lo gap lap rest pl k1 (list ++ [i]) (long + x) (impl_FirstJoined.upd gap lap rest (list ++ [i]) (long + x) bi)) L v49 v50 v51 v52 v53 v54 v55 v56 v57 v58 v59 v60 v61 v62 v63 Wc) (by kernel_rfl) (by kernel_rfl) ?start ?step ?fin
            case start => exact ⟨_, _, _, _, _, _, _, _, _, _, _, _, _, _, _, rfl, ⟨fun _ => below_drew1 (Below.refl _ _), nofun, nofun, nofun, nofun, nofun, nofun, nofun, nofun, nofun, nofun, nofun, nofun, nofun, nofun, nofun, nofun, nofun⟩⟩
            case fin =>
              rintro L a Wc hall ⟨v49, v50, v51, v52, v53, v54, v55, v56, v57, v58, v59, v60, v61, v62, v63, rfl, H⟩
              obtain ⟨vb', hF', hg'⟩ := H.e14 (hall 14 (by decide))
              have HF4 := Aside0.mk hF'
              have HG4 := Aside0.mk (HG.out.trans hg')
              obtain rfl := H.h3 (hall 3 (by decide))
              clear H hall hF' hg'
              go_wp2
              go_roundg k1
              case measure => omega
              case rel => exact ⟨_, vb', by first | rfl | rw [HI2.out] | (rw [← HI2.out]), ⟨by omega⟩, ⟨HE3.out⟩, HF4, HG4⟩
            case step =>
              rintro L a Wc j o ho hL hp ⟨v49, v50, v51, v52, v53, v54, v55, v56, v57, v58, v59, v60, v61, v62, v63, rfl, H⟩
              have hj : j < 15 := (Array.getElem?_eq_some_iff.1 ho).1
              have hcell : Wc.cell? ⟨Bc, 0, none⟩ = some (.func (.func 28) #[] #[.pointer (some ⟨Bl, 0, none⟩), .pointer (some ⟨Bg, 0, none⟩), .pointer (some ⟨Br, 0, none⟩), .pointer (some ⟨Bb, 0, none⟩), .pointer (some ⟨Bp, 0, none⟩), .pointer (some ⟨Bc, 0, none⟩)]) ∧ Wc.cell? ⟨Bp, 0, none⟩ = some (.slice (some ad) pl.length c1) ∧ Wc.cell? (ad.add i.toNat) = some (.int .i64 x) := by
                cases e : L 14 with
                | false =>
                  have hF2 := HFi.out.same (impl_FirstJoined.grown_of_below (H.hb e) none)
                  exact ⟨hF2.cc.cell, hF2.cp.cell, (hF2.b0.cell (World.block_lt_of_cell? w0 _ hxr)).trans hxr⟩
                | true =>
                  obtain ⟨_, hF2, _⟩ := H.e14 e
                  exact ⟨hF2.cc.cell, hF2.cp.cell, (hF2.b0.cell (World.block_lt_of_cell? w0 _ hxr)).trans hxr⟩
              obtain ⟨hc1, hc2, hc3⟩ := hcell
              rcases (show j = 0 ∨ j = 1 ∨ j = 2 ∨ j = 3 ∨ j = 4 ∨ j = 5 ∨ j = 6 ∨ j = 7 ∨ j = 8 ∨ j = 9 ∨ j = 10 ∨ j = 11 ∨ j = 12 ∨ j = 13 ∨ j = 14 by omega) with rfl | rfl | rfl | rfl | rfl | rfl | rfl | rfl | rfl | rfl | rfl | rfl | rfl | rfl | rfl
              all_goals (obtain rfl : _ = o := Option.some.inj (show some _ = some o from ho); simp [Region.binds] at hp; refine impl_FirstJoined.wpOp_of rfl (fun K hK => ?_))
              · -- operation 0
                go_simp
                refine Or.inl ?_
                have H1 := H
                refine hK _ _ ⟨_, v50, v51, v52, v53, v54, v55, v56, v57, v58, v59, v60, v61, v62, v63, rfl, ⟨?_, ?_, ?_, ?_, ?_, ?_, ?_, ?_, ?_, ?_, ?_, ?_, ?_, ?_, ?_, ?_, ?_, ?_⟩⟩
                · exact fun hl => H1.hb (by simpa using hl)
                · exact fun hl => H1.e14 (by simpa using hl)
                · exact fun _ => by first | rfl | rw [HI2.out] | (rw [← HI2.out])
                · exact fun hl => H1.h1 (by simpa using hl)
                · exact fun hl hl5 => H1.h2 (by simpa using hl) (by simpa using hl5)
                · exact fun hl => H1.h3 (by simpa using hl)
                · exact fun hl hl5 => H1.h4 (by simpa using hl) (by simpa using hl5)
                · exact fun hl hl5 => H1.h5 (by simpa using hl) (by simpa using hl5)
                · exact fun hl => H1.h6 (by simpa using hl)
                · exact fun hl => H1.h7 (by simpa using hl)
                · exact fun hl => H1.h8 (by simpa using hl)
                · exact fun hl => H1.h9 (by simpa using hl)
                · exact fun hl => H1.h10 (by simpa using hl)
                · exact fun hl => H1.h11 (by simpa using hl)
                · exact fun hl => H1.h12 (by simpa using hl)
                · exact fun hl => H1.h13 (by simpa using hl)
                · exact fun hl => by have := H1.o5 (by simpa using hl); simp [this]
                · exact fun hl => by have := H1.o14 (by simpa using hl); simp [this]
              · -- operation 1
                go_simp
                refine Or.inl ?_
                have H1 := H
                refine hK _ _ ⟨v49, _, v51, v52, v53, v54, v55, v56, v57, v58, v59, v60, v61, v62, v63, rfl, ⟨?_, ?_, ?_, ?_, ?_, ?_, ?_, ?_, ?_, ?_, ?_, ?_, ?_, ?_, ?_, ?_, ?_, ?_⟩⟩
                · exact fun hl => H1.hb (by simpa using hl)
                · exact fun hl => H1.e14 (by simpa using hl)
                · exact fun hl => H1.h0 (by simpa using hl)
                · exact fun _ => by first | rfl | rw [HI2.out] | (rw [← HI2.out])
                · exact fun hl hl5 => H1.h2 (by simpa using hl) (by simpa using hl5)
                · exact fun hl => H1.h3 (by simpa using hl)
                · exact fun hl hl5 => H1.h4 (by simpa using hl) (by simpa using hl5)
                · exact fun hl hl5 => H1.h5 (by simpa using hl) (by simpa using hl5)
                · exact fun hl => H1.h6 (by simpa using hl)
                · exact fun hl => H1.h7 (by simpa using hl)
                · exact fun hl => H1.h8 (by simpa using hl)
                · exact fun hl => H1.h9 (by simpa using hl)
                · exact fun hl => H1.h10 (by simpa using hl)
                · exact fun hl => H1.h11 (by simpa using hl)
                · exact fun hl => H1.h12 (by simpa using hl)
                · exact fun hl => H1.h13 (by simpa using hl)
                · exact fun hl => by have := H1.o5 (by simpa using hl); simp [this]
                · exact fun hl => by have := H1.o14 (by simpa using hl); simp [this]
              · -- operation 2
                obtain rfl := H.h1 hp
                have h14 : L 14 = false := by cases e : L 14 with | false => rfl | true => exact absurd (H.o5 (H.o14 e)).1 (by simp [hL])
                have hbc := H.hb h14
                go_simp
                refine Or.inl ?_
                refine (impl_FirstJoined.clone w0.heap.size Wc _ list (HVr.out.below hbc) (Nat.le_trans HSZ.out hbc.size) HLEN.out).mono ?_
                rintro e w' ⟨v', rfl, hlv, hbw, hfr⟩
                have H1 := H.world h14 hbw
                refine hK _ _ ⟨v49, _, _, v52, v53, v54, v55, v56, v57, v58, v59, v60, v61, v62, v63, rfl, ⟨?_, ?_, ?_, ?_, ?_, ?_, ?_, ?_, ?_, ?_, ?_, ?_, ?_, ?_, ?_, ?_, ?_, ?_⟩⟩
                · exact fun hl => H1.hb (by simpa using hl)
                · exact fun hl => H1.e14 (by simpa using hl)
                · exact fun hl => H1.h0 (by simpa using hl)
                · exact fun hl => H1.h1 (by simpa using hl)
                · exact fun _ _ => ⟨hlv, fun k hk => Nat.le_trans hbc.size (hfr k hk)⟩
                · exact fun hl => H1.h3 (by simpa using hl)
                · exact fun hl hl5 => H1.h4 (by simpa using hl) (by simpa using hl5)
                · exact fun hl hl5 => H1.h5 (by simpa using hl) (by simpa using hl5)
                · exact fun hl => H1.h6 (by simpa using hl)
                · exact fun hl => H1.h7 (by simpa using hl)
                · exact fun hl => H1.h8 (by simpa using hl)
                · exact fun hl => H1.h9 (by simpa using hl)
                · exact fun hl => H1.h10 (by simpa using hl)
                · exact fun hl => H1.h11 (by simpa using hl)
                · exact fun hl => H1.h12 (by simpa using hl)
                · exact fun hl => H1.h13 (by simpa using hl)
                · exact fun hl => by have := H1.o5 (by simpa using hl); simp [this]
                · exact fun hl => by have := H1.o14 (by simpa using hl); simp [this]
              · -- operation 3
                go_simp
                refine Or.inl ?_
                have H1 := H
                refine hK _ _ ⟨v49, v50, v51, _, v53, v54, v55, v56, v57, v58, v59, v60, v61, v62, v63, rfl, ⟨?_, ?_, ?_, ?_, ?_, ?_, ?_, ?_, ?_, ?_, ?_, ?_, ?_, ?_, ?_, ?_, ?_, ?_⟩⟩
                · exact fun hl => H1.hb (by simpa using hl)
                · exact fun hl => H1.e14 (by simpa using hl)
                · exact fun hl => H1.h0 (by simpa using hl)
                · exact fun hl => H1.h1 (by simpa using hl)
                · exact fun hl hl5 => H1.h2 (by simpa using hl) (by simpa using hl5)
                · exact fun _ => by first | rfl | rw [HI2.out] | (rw [← HI2.out])
                · exact fun hl hl5 => H1.h4 (by simpa using hl) (by simpa using hl5)
                · exact fun hl hl5 => H1.h5 (by simpa using hl) (by simpa using hl5)
                · exact fun hl => H1.h6 (by simpa using hl)
                · exact fun hl => H1.h7 (by simpa using hl)
                · exact fun hl => H1.h8 (by simpa using hl)
                · exact fun hl => H1.h9 (by simpa using hl)
                · exact fun hl => H1.h10 (by simpa using hl)
                · exact fun hl => H1.h11 (by simpa using hl)
                · exact fun hl => H1.h12 (by simpa using hl)
                · exact fun hl => H1.h13 (by simpa using hl)
                · exact fun hl => by have := H1.o5 (by simpa using hl); simp [this]
                · exact fun hl => by have := H1.o14 (by simpa using hl); simp [this]
              · -- operation 4
                obtain rfl := H.h3 hp
                have h14 : L 14 = false := by cases e : L 14 with | false => rfl | true => exact absurd (H.o5 (H.o14 e)).2 (by simp [hL])
                go_simp
                refine Or.inl ?_
                have H1 := H.world h14 (below_alloc (Below.refl _ _) (Obj.cells #[.int .i64 i] 3))
                refine hK _ _ ⟨v49, v50, v51, _, _, v54, v55, v56, v57, v58, v59, v60, v61, v62, v63, rfl, ⟨?_, ?_, ?_, ?_, ?_, ?_, ?_, ?_, ?_, ?_, ?_, ?_, ?_, ?_, ?_, ?_, ?_, ?_⟩⟩
                · exact fun hl => H1.hb (by simpa using hl)
                · exact fun hl => H1.e14 (by simpa using hl)
                · exact fun hl => H1.h0 (by simpa using hl)
                · exact fun hl => H1.h1 (by simpa using hl)
                · exact fun hl hl5 => H1.h2 (by simpa using hl) (by simpa using hl5)
                · exact fun hl => H1.h3 (by simpa using hl)
                · exact fun _ _ => ⟨Wc.heap.size, rfl, Boxed.new Wc _ _⟩
                · exact fun hl hl5 => H1.h5 (by simpa using hl) (by simpa using hl5)
                · exact fun hl => H1.h6 (by simpa using hl)
                · exact fun hl => H1.h7 (by simpa using hl)
                · exact fun hl => H1.h8 (by simpa using hl)
                · exact fun hl => H1.h9 (by simpa using hl)
                · exact fun hl => H1.h10 (by simpa using hl)
                · exact fun hl => H1.h11 (by simpa using hl)
                · exact fun hl => H1.h12 (by simpa using hl)
                · exact fun hl => H1.h13 (by simpa using hl)
                · exact fun hl => by have := H1.o5 (by simpa using hl); simp [this]
                · exact fun hl => by have := H1.o14 (by simpa using hl); simp [this]
              · -- operation 5
                have h14 : L 14 = false := by cases e : L 14 with | false => rfl | true => exact absurd (H.o14 e) (by simp [hL])
                obtain ⟨hlv, hfr⟩ := H.h2 hp.1 hL
                obtain ⟨gb5, rfl, hg5⟩ := H.h4 hp.2.1 hL
                obtain ⟨i0, hi0, hi1⟩ := Option.map_eq_some_iff.1 info3
                simp only [Prod.mk.injEq] at hi1
                rw [if_pos (by rfl)]
                refine Or.inl (wp_append_own Wc (.tmp 51) (.tmp 53) 22 rfl w0.heap.size 3 i0 (.int .i64 0) 1 8 Try.underlying22 hi0 hi1.1 hi1.2.1 hi1.2.2 rfl (by decide) v51 list.length (list.map (Value.int .i64)) rfl hlv ⟨gb5, 0, none⟩ 1 1 [.int .i64 i] rfl rfl (fun j u hj => ?_) (fun u hu => ?_) (by have := HLEN.out; unfold maxLen; omega) (by have := HLEN.out; omega) (Nat.le_trans HSZ.out (H.hb h14).size) (fun v' w' hown hgr _ => ?_))
                · match j, hj with
                  | 0, hj => (obtain rfl := Option.some.inj (show some _ = some u from hj); exact (Boxed.cell (t := 3) hg5))
                · simp only [List.mem_singleton] at hu; subst hu; rfl
                have H1 := H
                have hbg := (H.hb h14).grown hgr (H.hb h14).size (fun k hk => hfr k hk)
                refine hK _ _ ⟨v49, v50, v51, v52, _, _, v55, v56, v57, v58, v59, v60, v61, v62, v63, rfl, ⟨?_, ?_, ?_, ?_, ?_, ?_, ?_, ?_, ?_, ?_, ?_, ?_, ?_, ?_, ?_, ?_, ?_, ?_⟩⟩
                · exact fun _ => hbg
                · exact fun hl => by simp [h14] at hl
                · exact fun hl => H1.h0 (by simpa using hl)
                · exact fun hl => H1.h1 (by simpa using hl)
                · exact fun hl hl5 => by simp at hl5
                · exact fun hl => H1.h3 (by simpa using hl)
                · exact fun hl hl5 => by simp at hl5
                · exact fun _ _ => by have := hown; unfold impl_FirstJoined.LV; rw [List.length_append, List.map_append]; exact this
                · exact fun hl => H1.h6 (by simpa using hl)
                · exact fun hl => H1.h7 (by simpa using hl)
                · exact fun hl => H1.h8 (by simpa using hl)
                · exact fun hl => H1.h9 (by simpa using hl)
                · exact fun hl => H1.h10 (by simpa using hl)
                · exact fun hl => H1.h11 (by simpa using hl)
                · exact fun hl => H1.h12 (by simpa using hl)
                · exact fun hl => H1.h13 (by simpa using hl)
                · exact fun _ => by simp [hp]
                · exact fun hl => by simp
              · -- operation 6
                go_simp
                refine Or.inl ?_
                have H1 := H
                refine hK _ _ ⟨v49, v50, v51, v52, v53, v54, _, v56, v57, v58, v59, v60, v61, v62, v63, rfl, ⟨?_, ?_, ?_, ?_, ?_, ?_, ?_, ?_, ?_, ?_, ?_, ?_, ?_, ?_, ?_, ?_, ?_, ?_⟩⟩
                · exact fun hl => H1.hb (by simpa using hl)
                · exact fun hl => H1.e14 (by simpa using hl)
                · exact fun hl => H1.h0 (by simpa using hl)
                · exact fun hl => H1.h1 (by simpa using hl)
                · exact fun hl hl5 => H1.h2 (by simpa using hl) (by simpa using hl5)
                · exact fun hl => H1.h3 (by simpa using hl)
                · exact fun hl hl5 => H1.h4 (by simpa using hl) (by simpa using hl5)
                · exact fun hl hl5 => H1.h5 (by simpa using hl) (by simpa using hl5)
                · exact fun _ => by first | rfl | rw [HI2.out] | (rw [← HI2.out])
                · exact fun hl => H1.h7 (by simpa using hl)
                · exact fun hl => H1.h8 (by simpa using hl)
                · exact fun hl => H1.h9 (by simpa using hl)
                · exact fun hl => H1.h10 (by simpa using hl)
                · exact fun hl => H1.h11 (by simpa using hl)
                · exact fun hl => H1.h12 (by simpa using hl)
                · exact fun hl => H1.h13 (by simpa using hl)
                · exact fun hl => by have := H1.o5 (by simpa using hl); simp [this]
                · exact fun hl => by have := H1.o14 (by simpa using hl); simp [this]
              · -- operation 7
                obtain rfl := H.h6 hp
                go_simp
                refine Or.inl ?_
                have H1 := H
                refine hK _ _ ⟨v49, v50, v51, v52, v53, v54, _, _, v57, v58, v59, v60, v61, v62, v63, rfl, ⟨?_, ?_, ?_, ?_, ?_, ?_, ?_, ?_, ?_, ?_, ?_, ?_, ?_, ?_, ?_, ?_, ?_, ?_⟩⟩
                · exact fun hl => H1.hb (by simpa using hl)
                · exact fun hl => H1.e14 (by simpa using hl)
                · exact fun hl => H1.h0 (by simpa using hl)
                · exact fun hl => H1.h1 (by simpa using hl)
                · exact fun hl hl5 => H1.h2 (by simpa using hl) (by simpa using hl5)
                · exact fun hl => H1.h3 (by simpa using hl)
                · exact fun hl hl5 => H1.h4 (by simpa using hl) (by simpa using hl5)
                · exact fun hl hl5 => H1.h5 (by simpa using hl) (by simpa using hl5)
                · exact fun hl => H1.h6 (by simpa using hl)
                · exact fun _ => by first | rfl | rw [HI2.out] | (rw [← HI2.out])
                · exact fun hl => H1.h8 (by simpa using hl)
                · exact fun hl => H1.h9 (by simpa using hl)
                · exact fun hl => H1.h10 (by simpa using hl)
                · exact fun hl => H1.h11 (by simpa using hl)
                · exact fun hl => H1.h12 (by simpa using hl)
                · exact fun hl => H1.h13 (by simpa using hl)
                · exact fun hl => by have := H1.o5 (by simpa using hl); simp [this]
                · exact fun hl => by have := H1.o14 (by simpa using hl); simp [this]
              · -- operation 8
                go_simp
                refine Or.inl ?_
                have H1 := H
                refine hK _ _ ⟨v49, v50, v51, v52, v53, v54, v55, v56, _, v58, v59, v60, v61, v62, v63, rfl, ⟨?_, ?_, ?_, ?_, ?_, ?_, ?_, ?_, ?_, ?_, ?_, ?_, ?_, ?_, ?_, ?_, ?_, ?_⟩⟩
                · exact fun hl => H1.hb (by simpa using hl)
                · exact fun hl => H1.e14 (by simpa using hl)
                · exact fun hl => H1.h0 (by simpa using hl)
                · exact fun hl => H1.h1 (by simpa using hl)
                · exact fun hl hl5 => H1.h2 (by simpa using hl) (by simpa using hl5)
                · exact fun hl => H1.h3 (by simpa using hl)
                · exact fun hl hl5 => H1.h4 (by simpa using hl) (by simpa using hl5)
                · exact fun hl hl5 => H1.h5 (by simpa using hl) (by simpa using hl5)
                · exact fun hl => H1.h6 (by simpa using hl)
                · exact fun hl => H1.h7 (by simpa using hl)
                · exact fun _ => by first | rfl | rw [HI2.out] | (rw [← HI2.out])
                · exact fun hl => H1.h9 (by simpa using hl)
                · exact fun hl => H1.h10 (by simpa using hl)
                · exact fun hl => H1.h11 (by simpa using hl)
                · exact fun hl => H1.h12 (by simpa using hl)
                · exact fun hl => H1.h13 (by simpa using hl)
                · exact fun hl => by have := H1.o5 (by simpa using hl); simp [this]
                · exact fun hl => by have := H1.o14 (by simpa using hl); simp [this]
              · -- operation 9
                go_simp
                refine Or.inl ?_
                have H1 := H
                refine hK _ _ ⟨v49, v50, v51, v52, v53, v54, v55, v56, v57, _, v59, v60, v61, v62, v63, rfl, ⟨?_, ?_, ?_, ?_, ?_, ?_, ?_, ?_, ?_, ?_, ?_, ?_, ?_, ?_, ?_, ?_, ?_, ?_⟩⟩
                · exact fun hl => H1.hb (by simpa using hl)
                · exact fun hl => H1.e14 (by simpa using hl)
                · exact fun hl => H1.h0 (by simpa using hl)
                · exact fun hl => H1.h1 (by simpa using hl)
                · exact fun hl hl5 => H1.h2 (by simpa using hl) (by simpa using hl5)
                · exact fun hl => H1.h3 (by simpa using hl)
                · exact fun hl hl5 => H1.h4 (by simpa using hl) (by simpa using hl5)
                · exact fun hl hl5 => H1.h5 (by simpa using hl) (by simpa using hl5)
                · exact fun hl => H1.h6 (by simpa using hl)
                · exact fun hl => H1.h7 (by simpa using hl)
                · exact fun hl => H1.h8 (by simpa using hl)
                · exact fun _ => by first | rfl | rw [HI2.out] | (rw [← HI2.out])
                · exact fun hl => H1.h10 (by simpa using hl)
                · exact fun hl => H1.h11 (by simpa using hl)
                · exact fun hl => H1.h12 (by simpa using hl)
                · exact fun hl => H1.h13 (by simpa using hl)
                · exact fun hl => by have := H1.o5 (by simpa using hl); simp [this]
                · exact fun hl => by have := H1.o14 (by simpa using hl); simp [this]
              · -- operation 10
                go_simp
                refine Or.inl ?_
                have H1 := H
                refine hK _ _ ⟨v49, v50, v51, v52, v53, v54, v55, v56, v57, v58, _, v60, v61, v62, v63, rfl, ⟨?_, ?_, ?_, ?_, ?_, ?_, ?_, ?_, ?_, ?_, ?_, ?_, ?_, ?_, ?_, ?_, ?_, ?_⟩⟩
                · exact fun hl => H1.hb (by simpa using hl)
                · exact fun hl => H1.e14 (by simpa using hl)
                · exact fun hl => H1.h0 (by simpa using hl)
                · exact fun hl => H1.h1 (by simpa using hl)
                · exact fun hl hl5 => H1.h2 (by simpa using hl) (by simpa using hl5)
                · exact fun hl => H1.h3 (by simpa using hl)
                · exact fun hl hl5 => H1.h4 (by simpa using hl) (by simpa using hl5)
                · exact fun hl hl5 => H1.h5 (by simpa using hl) (by simpa using hl5)
                · exact fun hl => H1.h6 (by simpa using hl)
                · exact fun hl => H1.h7 (by simpa using hl)
                · exact fun hl => H1.h8 (by simpa using hl)
                · exact fun hl => H1.h9 (by simpa using hl)
                · exact fun _ => by first | rfl | rw [HI2.out] | (rw [← HI2.out])
                · exact fun hl => H1.h11 (by simpa using hl)
                · exact fun hl => H1.h12 (by simpa using hl)
                · exact fun hl => H1.h13 (by simpa using hl)
                · exact fun hl => by have := H1.o5 (by simpa using hl); simp [this]
                · exact fun hl => by have := H1.o14 (by simpa using hl); simp [this]
              · -- operation 11
                obtain rfl := H.h9 hp.1
                obtain rfl := H.h10 hp.2
                go_simp
                refine Or.inl ?_
                have H1 := H
                refine hK _ _ ⟨v49, v50, v51, v52, v53, v54, v55, v56, v57, _, _, _, v61, v62, v63, rfl, ⟨?_, ?_, ?_, ?_, ?_, ?_, ?_, ?_, ?_, ?_, ?_, ?_, ?_, ?_, ?_, ?_, ?_, ?_⟩⟩
                · exact fun hl => H1.hb (by simpa using hl)
                · exact fun hl => H1.e14 (by simpa using hl)
                · exact fun hl => H1.h0 (by simpa using hl)
                · exact fun hl => H1.h1 (by simpa using hl)
                · exact fun hl hl5 => H1.h2 (by simpa using hl) (by simpa using hl5)
                · exact fun hl => H1.h3 (by simpa using hl)
                · exact fun hl hl5 => H1.h4 (by simpa using hl) (by simpa using hl5)
                · exact fun hl hl5 => H1.h5 (by simpa using hl) (by simpa using hl5)
                · exact fun hl => H1.h6 (by simpa using hl)
                · exact fun hl => H1.h7 (by simpa using hl)
                · exact fun hl => H1.h8 (by simpa using hl)
                · exact fun hl => H1.h9 (by simpa using hl)
                · exact fun hl => H1.h10 (by simpa using hl)
                · exact fun _ => by first | rfl | rw [HI2.out] | (rw [← HI2.out])
                · exact fun hl => H1.h12 (by simpa using hl)
                · exact fun hl => H1.h13 (by simpa using hl)
                · exact fun hl => by have := H1.o5 (by simpa using hl); simp [this]
                · exact fun hl => by have := H1.o14 (by simpa using hl); simp [this]
              · -- operation 12
                obtain rfl := H.h11 hp
                go_simp
                refine Or.inl ?_
                have H1 := H
                refine hK _ _ ⟨v49, v50, v51, v52, v53, v54, v55, v56, v57, v58, v59, _, _, v62, v63, rfl, ⟨?_, ?_, ?_, ?_, ?_, ?_, ?_, ?_, ?_, ?_, ?_, ?_, ?_, ?_, ?_, ?_, ?_, ?_⟩⟩
                · exact fun hl => H1.hb (by simpa using hl)
                · exact fun hl => H1.e14 (by simpa using hl)
                · exact fun hl => H1.h0 (by simpa using hl)
                · exact fun hl => H1.h1 (by simpa using hl)
                · exact fun hl hl5 => H1.h2 (by simpa using hl) (by simpa using hl5)
                · exact fun hl => H1.h3 (by simpa using hl)
                · exact fun hl hl5 => H1.h4 (by simpa using hl) (by simpa using hl5)
                · exact fun hl hl5 => H1.h5 (by simpa using hl) (by simpa using hl5)
                · exact fun hl => H1.h6 (by simpa using hl)
                · exact fun hl => H1.h7 (by simpa using hl)
                · exact fun hl => H1.h8 (by simpa using hl)
                · exact fun hl => H1.h9 (by simpa using hl)
                · exact fun hl => H1.h10 (by simpa using hl)
                · exact fun hl => H1.h11 (by simpa using hl)
                · exact fun _ => by first | rfl | rw [HI2.out] | (rw [← HI2.out])
                · exact fun hl => H1.h13 (by simpa using hl)
                · exact fun hl => by have := H1.o5 (by simpa using hl); simp [this]
                · exact fun hl => by have := H1.o14 (by simpa using hl); simp [this]
              · -- operation 13
                obtain rfl := H.h8 hp.1
                obtain rfl := H.h12 hp.2
                go_simp
                refine Or.inl ?_
                have H1 := H
                refine hK _ _ ⟨v49, v50, v51, v52, v53, v54, v55, v56, _, v58, v59, v60, _, _, v63, rfl, ⟨?_, ?_, ?_, ?_, ?_, ?_, ?_, ?_, ?_, ?_, ?_, ?_, ?_, ?_, ?_, ?_, ?_, ?_⟩⟩
                · exact fun hl => H1.hb (by simpa using hl)
                · exact fun hl => H1.e14 (by simpa using hl)
                · exact fun hl => H1.h0 (by simpa using hl)
                · exact fun hl => H1.h1 (by simpa using hl)
                · exact fun hl hl5 => H1.h2 (by simpa using hl) (by simpa using hl5)
                · exact fun hl => H1.h3 (by simpa using hl)
                · exact fun hl hl5 => H1.h4 (by simpa using hl) (by simpa using hl5)
                · exact fun hl hl5 => H1.h5 (by simpa using hl) (by simpa using hl5)
                · exact fun hl => H1.h6 (by simpa using hl)
                · exact fun hl => H1.h7 (by simpa using hl)
                · exact fun hl => H1.h8 (by simpa using hl)
                · exact fun hl => H1.h9 (by simpa using hl)
                · exact fun hl => H1.h10 (by simpa using hl)
                · exact fun hl => H1.h11 (by simpa using hl)
                · exact fun hl => H1.h12 (by simpa using hl)
                · exact fun _ => by first | rfl | rw [HI2.out] | (rw [← HI2.out])
                · exact fun hl => by have := H1.o5 (by simpa using hl); simp [this]
                · exact fun hl => by have := H1.o14 (by simpa using hl); simp [this]
              · -- operation 14
                obtain rfl := H.h0 hp.1
                obtain rfl := H.h7 hp.2.2.1
                obtain rfl := H.h13 hp.2.2.2.1
                have hlv := H.h5 hp.2.1 hL
                have hbc := H.hb hL
                go_simp
                refine Or.inl ?_
                try rw [HI2.out]
                refine (IH.out k1 hk1d (list ++ [i]) (long + x) bi v54 vi Wc (by omega) (by rw [List.length_append, List.length_singleton]; omega) (by omega) (by rw [List.length_append, List.length_singleton]; omega) hlv (fun e => by simp at e) (HFi.out.same (impl_FirstJoined.grown_of_below hbc none))).mono ?_
                rintro e w' ⟨rfl, vb', hF', hg'⟩
                have H1 := H
                refine hK _ _ ⟨_, v50, v51, v52, v53, v54, v55, _, v57, v58, v59, v60, v61, _, _, rfl, ⟨?_, ?_, ?_, ?_, ?_, ?_, ?_, ?_, ?_, ?_, ?_, ?_, ?_, ?_, ?_, ?_, ?_, ?_⟩⟩
                · exact fun hl => by simp at hl
                · exact fun _ => ⟨vb', hF', (impl_FirstJoined.grown_of_below hbc (some Bb)).trans hg'⟩
                · exact fun hl => H1.h0 (by simpa using hl)
                · exact fun hl => H1.h1 (by simpa using hl)
                · exact fun _ hl5 => by simp [hp] at hl5
                · exact fun hl => H1.h3 (by simpa using hl)
                · exact fun _ hl5 => by simp [hp] at hl5
                · exact fun _ hl5 => by simp at hl5
                · exact fun hl => H1.h6 (by simpa using hl)
                · exact fun hl => by first | rfl | rw [HI2.out] | (rw [← HI2.out])
                · exact fun hl => H1.h8 (by simpa using hl)
                · exact fun hl => H1.h9 (by simpa using hl)
                · exact fun hl => H1.h10 (by simpa using hl)
                · exact fun hl => H1.h11 (by simpa using hl)
                · exact fun hl => H1.h12 (by simpa using hl)
                · exact fun hl => H1.h13 (by simpa using hl)
                · exact fun hl => by have := H1.o5 (by simpa using hl); simp [this]
                · exact fun _ => by simp [hp]
      | some b =>
        obtain ⟨hbn, hbv⟩ := HF.out.hs b rfl
        rcases impl_FirstJoined.LV.form hbv with ⟨rfl, _⟩ | ⟨gb, cb, curb, rfl, _⟩
        · exact absurd rfl hbn
        by_cases hsh : list.length < b.length
        · have d2 : decide ((list.length : Int) < (b.length : Int)) = true := decide_eq_true (by omega)
          have hu : impl_FirstJoined.upd gap lap rest list long (some b) = some list := by
            unfold impl_FirstJoined.upd
            rw [if_pos ⟨by omega, by rw [hz]; exact cnd⟩]
            show (if list.length < b.length then some list else some b) = some list
            rw [if_pos hsh]
          rw [hu]
          go_enter Try.func28, Try.ntmps28
          go_wp2
          have HF2 := Aside0.mk (HF.out.put hne HV.out)
          have HG2 := Aside0.mk (grownBy_setCell' W Bb (.slice (some ⟨g, 0, none⟩) list.length c))
          go_loopg [12] d (fun kq v12 w' => ∃ (bi : Option (List Int)) (vi : Value), v12 = .int .i64 ((pl.length : Int) - (kq : Int)) ∧ Aside0 (kq ≤ d) ∧ Aside0 (impl_FirstJoined.lo gap lap rest pl kq list long bi = impl_FirstJoined.lo gap lap rest pl d list long (some list)) ∧ Aside0 (impl_FirstJoined.Fx w0 Bl Bg Br Bb Bp Bc gap lap rest (.slice (some ad) pl.length c1) w' bi vi) ∧ Aside0 (W.grownBy w' (some Bb)))
          case atStart => exact ⟨_, _, rfl, ⟨Nat.le_refl _⟩, ⟨rfl⟩, HF2, HG2⟩
          case round =>
            obtain ⟨bi, vi, rfl, HK, HE, HFi, HG⟩ := hrel
            have p1 := HFi.out.cl.cell
            have p4 := HFi.out.cb.cell
            have p5 := HFi.out.cp.cell
            have p6 := HFi.out.cc.cell
            have p7 := HFi.out.b0
            cases gk with
            | zero =>
              have hd1 : decide ((pl.length : Int) - ((0 : Nat) : Int) < (pl.length : Int)) = false := decide_eq_false (by omega)
              go_wp2
              go_end0
              exact ⟨rfl, vi, by have := HE.out; simp only [impl_FirstJoined.lo] at this; rw [← this]; exact HFi.out, HG.out⟩
            | succ k1 =>
              have hd1 : decide ((pl.length : Int) - ((k1 + 1 : Nat) : Int) < (pl.length : Int)) = true := decide_eq_true (by omega)
              go_wp2
              obtain ⟨i, hi⟩ : ∃ i : Int, (pl.length : Int) - ((k1 + 1 : Nat) : Int) = i := ⟨_, rfl⟩
              have hk1d : k1 < d := by have := HK.out; omega
              have HI2 := Aside0.mk (show i + 1 = (pl.length : Int) - (k1 : Int) by omega)
              have hi0 : 0 ≤ i := by omega
              have hi1 : i < (pl.length : Int) := by omega
              obtain ⟨x, hx⟩ : ∃ x : Int, rd pl i = x := ⟨_, rfl⟩
              have hxr := HR.out i.toNat (by omega)
              have hxb := HB.out.2.2.2.2 i.toNat (by omega)
              have hpl := HB.out.2.2.2.1.2
              rw [show ((i.toNat : Nat) : Int) = i by omega, hx] at hxr hxb
              have wi1 : wrap64 (i + 1) = i + 1 := by unfold wrap64; omega
              have wi1' : IntKind.i64.wrap (i + 1) = i + 1 := (i64_w _).trans wi1
              have wx1 : wrap64 (long + x) = long + x := by unfold wrap64; omega
              have wx1' : IntKind.i64.wrap (long + x) = long + x := (i64_w _).trans wx1
              have HLEN := Aside0.mk (show list.length ≤ 100 by omega)
              have HVr := Aside0.mk (HV.out.kept HF.out.cb HG.out)
              have HSZ := Aside0.mk (below_size HFi.out.b0)
              have HE2 := HE.out
              simp only [impl_FirstJoined.lo] at HE2
              rw [hi, hx] at HE2
              have HE3 := Aside0.mk HE2
              clear HE2
              rw [hi]
              have hdec : decide ((pl.length : Int) - ((k1 : Int) + 1) < (pl.length : Int)) = true := decide_eq_true (by omega)
              rw [hdec]
              refine region_inv (J := fun L a Wc => ∃ v49 v50 v51 v52 v53 v54 v55 v56 v57 v58 v59 v60 v61 v62 v63 : Value, a = { tmps := #[Value.slice (some ⟨g, 0, none⟩) list.length c, Value.int IntKind.i64 ((pl.length : Int) - (d : Int)), Value.int IntKind.i64 long, Value.pointer (some ⟨Bl, 0, none⟩), Value.pointer (some ⟨Bg, 0, none⟩), Value.pointer (some ⟨Br, 0, none⟩), Value.pointer (some ⟨Bb, 0, none⟩), Value.pointer (some ⟨Bp, 0, none⟩), Value.pointer (some ⟨Bc, 0, none⟩), undef, undef, undef, Value.int IntKind.i64 i, Value.slice (some ⟨g, 0, none⟩) list.length c, Value.int IntKind.i64 (list.length : Int), Value.bool true, Value.bool true, Value.int IntKind.i64 long, Value.int IntKind.i64 lap, Value.slice (some ⟨g, 0, none⟩) list.length c, Value.int IntKind.i64 (list.length : Int), Value.int IntKind.i64 ((list.length : Int) - 1), Value.int IntKind.i64 z, Value.int IntKind.i64 (long - z), Value.int IntKind.i64 gap, Value.int IntKind.i64 rest, Value.int IntKind.i64 (2 * rest), Value.int IntKind.i64 (gap + 2 * rest), Value.bool true, Value.bool true, Value.bool true, Value.slice (some ⟨gb, 0, none⟩) b.length cb, Value.bool false, Value.bool false, Value.slice (some ⟨g, 0, none⟩) list.length c, Value.int IntKind.i64 (list.length : Int), Value.slice (some ⟨gb, 0, none⟩) b.length cb, Value.int IntKind.i64 (b.length : Int), Value.bool true, Value.bool true, Value.bool true, Value.slice (some ⟨g, 0, none⟩) list.length c, Value.int IntKind.i64 ((pl.length : Int) - (d : Int)), Value.int IntKind.i64 i, Value.slice (some ad) pl.length c1, Value.int IntKind.i64 (pl.length : Int), Value.bool true, u47, u48, v49, v50, v51, v52, v53, v54, v55, v56, v57, v58, v59, v60, v61, v62, v63], defers := [] } ∧ impl_FirstJoined.RS w0 wr Bl Bg Br Bb Bp Bc gap lap rest (.slice (some ad) pl.length c1) (.func (.func 28) #[] #[.pointer (some ⟨Bl, 0, none⟩), .pointer (some ⟨Bg, 0, none⟩), .pointer (some ⟨Br, 0, none⟩), .pointer (some ⟨Bb, 0, none⟩), .pointer (some ⟨Bp, 0, none⟩), .pointer (some ⟨Bc, 0, none⟩)]) (.slice (some ⟨g, 0, none⟩) list.length c) ad list i long x (impl_FirstJoined.lo gap lap rest pl k1 (list ++ [i]) (long + x) (impl_FirstJoined.upd gap lap rest (list ++ [i]) (long + x) bi)) L v49 v50 v51 v52 v53 v54 v55 v56 v57 v58 v59 v60 v61 v62 v63 Wc) (by kernel_rfl) (by kernel_rfl) ?start ?step ?fin
              case start => exact ⟨_, _, _, _, _, _, _, _, _, _, _, _, _, _, _, rfl, ⟨fun _ => below_drew1 (Below.refl _ _), nofun, nofun, nofun, nofun, nofun, nofun, nofun, nofun, nofun, nofun, nofun, nofun, nofun, nofun, nofun, nofun, nofun⟩⟩
              case fin =>
                rintro L a Wc hall ⟨v49, v50, v51, v52, v53, v54, v55, v56, v57, v58, v59, v60, v61, v62, v63, rfl, H⟩
                obtain ⟨vb', hF', hg'⟩ := H.e14 (hall 14 (by decide))
                have HF4 := Aside0.mk hF'
                have HG4 := Aside0.mk (HG.out.trans hg')
                obtain rfl := H.h3 (hall 3 (by decide))
                clear H hall hF' hg'
                go_wp2
                go_roundg k1
                case measure => omega
                case rel => exact ⟨_, vb', by first | rfl | rw [HI2.out] | (rw [← HI2.out]), ⟨by omega⟩, ⟨HE3.out⟩, HF4, HG4⟩
              case step =>
                rintro L a Wc j o ho hL hp ⟨v49, v50, v51, v52, v53, v54, v55, v56, v57, v58, v59, v60, v61, v62, v63, rfl, H⟩
                have hj : j < 15 := (Array.getElem?_eq_some_iff.1 ho).1
                have hcell : Wc.cell? ⟨Bc, 0, none⟩ = some (.func (.func 28) #[] #[.pointer (some ⟨Bl, 0, none⟩), .pointer (some ⟨Bg, 0, none⟩), .pointer (some ⟨Br, 0, none⟩), .pointer (some ⟨Bb, 0, none⟩), .pointer (some ⟨Bp, 0, none⟩), .pointer (some ⟨Bc, 0, none⟩)]) ∧ Wc.cell? ⟨Bp, 0, none⟩ = some (.slice (some ad) pl.length c1) ∧ Wc.cell? (ad.add i.toNat) = some (.int .i64 x) := by
                  cases e : L 14 with
                  | false =>
                    have hF2 := HFi.out.same (impl_FirstJoined.grown_of_below (H.hb e) none)
                    exact ⟨hF2.cc.cell, hF2.cp.cell, (hF2.b0.cell (World.block_lt_of_cell? w0 _ hxr)).trans hxr⟩
                  | true =>
                    obtain ⟨_, hF2, _⟩ := H.e14 e
                    exact ⟨hF2.cc.cell, hF2.cp.cell, (hF2.b0.cell (World.block_lt_of_cell? w0 _ hxr)).trans hxr⟩
                obtain ⟨hc1, hc2, hc3⟩ := hcell
                rcases (show j = 0 ∨ j = 1 ∨ j = 2 ∨ j = 3 ∨ j = 4 ∨ j = 5 ∨ j = 6 ∨ j = 7 ∨ j = 8 ∨ j = 9 ∨ j = 10 ∨ j = 11 ∨ j = 12 ∨ j = 13 ∨ j = 14 by omega) with rfl | rfl | rfl | rfl | rfl | rfl | rfl | rfl | rfl | rfl | rfl | rfl | rfl | rfl | rfl
                all_goals (obtain rfl : _ = o := Option.some.inj (show some _ = some o from ho); simp [Region.binds] at hp; refine impl_FirstJoined.wpOp_of rfl (fun K hK => ?_))
                · -- operation 0
                  go_simp
                  refine Or.inl ?_
                  have H1 := H
                  refine hK _ _ ⟨_, v50, v51, v52, v53, v54, v55, v56, v57, v58, v59, v60, v61, v62, v63, rfl, ⟨?_, ?_, ?_, ?_, ?_, ?_, ?_, ?_, ?_, ?_, ?_, ?_, ?_, ?_, ?_, ?_, ?_, ?_⟩⟩
                  · exact fun hl => H1.hb (by simpa using hl)
                  · exact fun hl => H1.e14 (by simpa using hl)
                  · exact fun _ => by first | rfl | rw [HI2.out] | (rw [← HI2.out])
                  · exact fun hl => H1.h1 (by simpa using hl)
                  · exact fun hl hl5 => H1.h2 (by simpa using hl) (by simpa using hl5)
                  · exact fun hl => H1.h3 (by simpa using hl)
                  · exact fun hl hl5 => H1.h4 (by simpa using hl) (by simpa using hl5)
                  · exact fun hl hl5 => H1.h5 (by simpa using hl) (by simpa using hl5)
                  · exact fun hl => H1.h6 (by simpa using hl)
                  · exact fun hl => H1.h7 (by simpa using hl)
                  · exact fun hl => H1.h8 (by simpa using hl)
                  · exact fun hl => H1.h9 (by simpa using hl)
                  · exact fun hl => H1.h10 (by simpa using hl)
                  · exact fun hl => H1.h11 (by simpa using hl)
                  · exact fun hl => H1.h12 (by simpa using hl)
                  · exact fun hl => H1.h13 (by simpa using hl)
                  · exact fun hl => by have := H1.o5 (by simpa using hl); simp [this]
                  · exact fun hl => by have := H1.o14 (by simpa using hl); simp [this]
                · -- operation 1
                  go_simp
                  refine Or.inl ?_
                  have H1 := H
                  refine hK _ _ ⟨v49, _, v51, v52, v53, v54, v55, v56, v57, v58, v59, v60, v61, v62, v63, rfl, ⟨?_, ?_, ?_, ?_, ?_, ?_, ?_, ?_, ?_, ?_, ?_, ?_, ?_, ?_, ?_, ?_, ?_, ?_⟩⟩
                  · exact fun hl => H1.hb (by simpa using hl)
                  · exact fun hl => H1.e14 (by simpa using hl)
                  · exact fun hl => H1.h0 (by simpa using hl)
                  · exact fun _ => by first | rfl | rw [HI2.out] | (rw [← HI2.out])
                  · exact fun hl hl5 => H1.h2 (by simpa using hl) (by simpa using hl5)
                  · exact fun hl => H1.h3 (by simpa using hl)
                  · exact fun hl hl5 => H1.h4 (by simpa using hl) (by simpa using hl5)
                  · exact fun hl hl5 => H1.h5 (by simpa using hl) (by simpa using hl5)
                  · exact fun hl => H1.h6 (by simpa using hl)
                  · exact fun hl => H1.h7 (by simpa using hl)
                  · exact fun hl => H1.h8 (by simpa using hl)
                  · exact fun hl => H1.h9 (by simpa using hl)
                  · exact fun hl => H1.h10 (by simpa using hl)
                  · exact fun hl => H1.h11 (by simpa using hl)
                  · exact fun hl => H1.h12 (by simpa using hl)
                  · exact fun hl => H1.h13 (by simpa using hl)
                  · exact fun hl => by have := H1.o5 (by simpa using hl); simp [this]
                  · exact fun hl => by have := H1.o14 (by simpa using hl); simp [this]
                · -- operation 2
                  obtain rfl := H.h1 hp
                  have h14 : L 14 = false := by cases e : L 14 with | false => rfl | true => exact absurd (H.o5 (H.o14 e)).1 (by simp [hL])
                  have hbc := H.hb h14
                  go_simp
                  refine Or.inl ?_
                  refine (impl_FirstJoined.clone w0.heap.size Wc _ list (HVr.out.below hbc) (Nat.le_trans HSZ.out hbc.size) HLEN.out).mono ?_
                  rintro e w' ⟨v', rfl, hlv, hbw, hfr⟩
                  have H1 := H.world h14 hbw
                  refine hK _ _ ⟨v49, _, _, v52, v53, v54, v55, v56, v57, v58, v59, v60, v61, v62, v63, rfl, ⟨?_, ?_, ?_, ?_, ?_, ?_, ?_, ?_, ?_, ?_, ?_, ?_, ?_, ?_, ?_, ?_, ?_, ?_⟩⟩
                  · exact fun hl => H1.hb (by simpa using hl)
                  · exact fun hl => H1.e14 (by simpa using hl)
                  · exact fun hl => H1.h0 (by simpa using hl)
                  · exact fun hl => H1.h1 (by simpa using hl)
                  · exact fun _ _ => ⟨hlv, fun k hk => Nat.le_trans hbc.size (hfr k hk)⟩
                  · exact fun hl => H1.h3 (by simpa using hl)
                  · exact fun hl hl5 => H1.h4 (by simpa using hl) (by simpa using hl5)
                  · exact fun hl hl5 => H1.h5 (by simpa using hl) (by simpa using hl5)
                  · exact fun hl => H1.h6 (by simpa using hl)
                  · exact fun hl => H1.h7 (by simpa using hl)
                  · exact fun hl => H1.h8 (by simpa using hl)
                  · exact fun hl => H1.h9 (by simpa using hl)
                  · exact fun hl => H1.h10 (by simpa using hl)
                  · exact fun hl => H1.h11 (by simpa using hl)
                  · exact fun hl => H1.h12 (by simpa using hl)
                  · exact fun hl => H1.h13 (by simpa using hl)
                  · exact fun hl => by have := H1.o5 (by simpa using hl); simp [this]
                  · exact fun hl => by have := H1.o14 (by simpa using hl); simp [this]
                · -- operation 3
                  go_simp
                  refine Or.inl ?_
                  have H1 := H
                  refine hK _ _ ⟨v49, v50, v51, _, v53, v54, v55, v56, v57, v58, v59, v60, v61, v62, v63, rfl, ⟨?_, ?_, ?_, ?_, ?_, ?_, ?_, ?_, ?_, ?_, ?_, ?_, ?_, ?_, ?_, ?_, ?_, ?_⟩⟩
                  · exact fun hl => H1.hb (by simpa using hl)
                  · exact fun hl => H1.e14 (by simpa using hl)
                  · exact fun hl => H1.h0 (by simpa using hl)
                  · exact fun hl => H1.h1 (by simpa using hl)
                  · exact fun hl hl5 => H1.h2 (by simpa using hl) (by simpa using hl5)
                  · exact fun _ => by first | rfl | rw [HI2.out] | (rw [← HI2.out])
                  · exact fun hl hl5 => H1.h4 (by simpa using hl) (by simpa using hl5)
                  · exact fun hl hl5 => H1.h5 (by simpa using hl) (by simpa using hl5)
                  · exact fun hl => H1.h6 (by simpa using hl)
                  · exact fun hl => H1.h7 (by simpa using hl)
                  · exact fun hl => H1.h8 (by simpa using hl)
                  · exact fun hl => H1.h9 (by simpa using hl)
                  · exact fun hl => H1.h10 (by simpa using hl)
                  · exact fun hl => H1.h11 (by simpa using hl)
                  · exact fun hl => H1.h12 (by simpa using hl)
                  · exact fun hl => H1.h13 (by simpa using hl)
                  · exact fun hl => by have := H1.o5 (by simpa using hl); simp [this]
                  · exact fun hl => by have := H1.o14 (by simpa using hl); simp [this]
                · -- operation 4
                  obtain rfl := H.h3 hp
                  have h14 : L 14 = false := by cases e : L 14 with | false => rfl | true => exact absurd (H.o5 (H.o14 e)).2 (by simp [hL])
                  go_simp
                  refine Or.inl ?_
                  have H1 := H.world h14 (below_alloc (Below.refl _ _) (Obj.cells #[.int .i64 i] 3))
                  refine hK _ _ ⟨v49, v50, v51, _, _, v54, v55, v56, v57, v58, v59, v60, v61, v62, v63, rfl, ⟨?_, ?_, ?_, ?_, ?_, ?_, ?_, ?_, ?_, ?_, ?_, ?_, ?_, ?_, ?_, ?_, ?_, ?_⟩⟩
                  · exact fun hl => H1.hb (by simpa using hl)
                  · exact fun hl => H1.e14 (by simpa using hl)
                  · exact fun hl => H1.h0 (by simpa using hl)
                  · exact fun hl => H1.h1 (by simpa using hl)
                  · exact fun hl hl5 => H1.h2 (by simpa using hl) (by simpa using hl5)
                  · exact fun hl => H1.h3 (by simpa using hl)
                  · exact fun _ _ => ⟨Wc.heap.size, rfl, Boxed.new Wc _ _⟩
                  · exact fun hl hl5 => H1.h5 (by simpa using hl) (by simpa using hl5)
                  · exact fun hl => H1.h6 (by simpa using hl)
                  · exact fun hl => H1.h7 (by simpa using hl)
                  · exact fun hl => H1.h8 (by simpa using hl)
                  · exact fun hl => H1.h9 (by simpa using hl)
                  · exact fun hl => H1.h10 (by simpa using hl)
                  · exact fun hl => H1.h11 (by simpa using hl)
                  · exact fun hl => H1.h12 (by simpa using hl)
                  · exact fun hl => H1.h13 (by simpa using hl)
                  · exact fun hl => by have := H1.o5 (by simpa using hl); simp [this]
                  · exact fun hl => by have := H1.o14 (by simpa using hl); simp [this]
                · -- operation 5
                  have h14 : L 14 = false := by cases e : L 14 with | false => rfl | true => exact absurd (H.o14 e) (by simp [hL])
                  obtain ⟨hlv, hfr⟩ := H.h2 hp.1 hL
                  obtain ⟨gb5, rfl, hg5⟩ := H.h4 hp.2.1 hL
                  obtain ⟨i0, hi0, hi1⟩ := Option.map_eq_some_iff.1 info3
                  simp only [Prod.mk.injEq] at hi1
                  rw [if_pos (by rfl)]
                  refine Or.inl (wp_append_own Wc (.tmp 51) (.tmp 53) 22 rfl w0.heap.size 3 i0 (.int .i64 0) 1 8 Try.underlying22 hi0 hi1.1 hi1.2.1 hi1.2.2 rfl (by decide) v51 list.length (list.map (Value.int .i64)) rfl hlv ⟨gb5, 0, none⟩ 1 1 [.int .i64 i] rfl rfl (fun j u hj => ?_) (fun u hu => ?_) (by have := HLEN.out; unfold maxLen; omega) (by have := HLEN.out; omega) (Nat.le_trans HSZ.out (H.hb h14).size) (fun v' w' hown hgr _ => ?_))
                  · match j, hj with
                    | 0, hj => (obtain rfl := Option.some.inj (show some _ = some u from hj); exact (Boxed.cell (t := 3) hg5))
                  · simp only [List.mem_singleton] at hu; subst hu; rfl
                  have H1 := H
                  have hbg := (H.hb h14).grown hgr (H.hb h14).size (fun k hk => hfr k hk)
                  refine hK _ _ ⟨v49, v50, v51, v52, _, _, v55, v56, v57, v58, v59, v60, v61, v62, v63, rfl, ⟨?_, ?_, ?_, ?_, ?_, ?_, ?_, ?_, ?_, ?_, ?_, ?_, ?_, ?_, ?_, ?_, ?_, ?_⟩⟩
                  · exact fun _ => hbg
                  · exact fun hl => by simp [h14] at hl
                  · exact fun hl => H1.h0 (by simpa using hl)
                  · exact fun hl => H1.h1 (by simpa using hl)
                  · exact fun hl hl5 => by simp at hl5
                  · exact fun hl => H1.h3 (by simpa using hl)
                  · exact fun hl hl5 => by simp at hl5
                  · exact fun _ _ => by have := hown; unfold impl_FirstJoined.LV; rw [List.length_append, List.map_append]; exact this
                  · exact fun hl => H1.h6 (by simpa using hl)
                  · exact fun hl => H1.h7 (by simpa using hl)
                  · exact fun hl => H1.h8 (by simpa using hl)
                  · exact fun hl => H1.h9 (by simpa using hl)
                  · exact fun hl => H1.h10 (by simpa using hl)
                  · exact fun hl => H1.h11 (by simpa using hl)
                  · exact fun hl => H1.h12 (by simpa using hl)
                  · exact fun hl => H1.h13 (by simpa using hl)
                  · exact fun _ => by simp [hp]
                  · exact fun hl => by simp
                · -- operation 6
                  go_simp
                  refine Or.inl ?_
                  have H1 := H
                  refine hK _ _ ⟨v49, v50, v51, v52, v53, v54, _, v56, v57, v58, v59, v60, v61, v62, v63, rfl, ⟨?_, ?_, ?_, ?_, ?_, ?_, ?_, ?_, ?_, ?_, ?_, ?_, ?_, ?_, ?_, ?_, ?_, ?_⟩⟩
                  · exact fun hl => H1.hb (by simpa using hl)
                  · exact fun hl => H1.e14 (by simpa using hl)
                  · exact fun hl => H1.h0 (by simpa using hl)
                  · exact fun hl => H1.h1 (by simpa using hl)
                  · exact fun hl hl5 => H1.h2 (by simpa using hl) (by simpa using hl5)
                  · exact fun hl => H1.h3 (by simpa using hl)
                  · exact fun hl hl5 => H1.h4 (by simpa using hl) (by simpa using hl5)
                  · exact fun hl hl5 => H1.h5 (by simpa using hl) (by simpa using hl5)
                  · exact fun _ => by first | rfl | rw [HI2.out] | (rw [← HI2.out])
                  · exact fun hl => H1.h7 (by simpa using hl)
                  · exact fun hl => H1.h8 (by simpa using hl)
                  · exact fun hl => H1.h9 (by simpa using hl)
                  · exact fun hl => H1.h10 (by simpa using hl)
                  · exact fun hl => H1.h11 (by simpa using hl)
                  · exact fun hl => H1.h12 (by simpa using hl)
                  · exact fun hl => H1.h13 (by simpa using hl)
                  · exact fun hl => by have := H1.o5 (by simpa using hl); simp [this]
                  · exact fun hl => by have := H1.o14 (by simpa using hl); simp [this]
                · -- operation 7
                  obtain rfl := H.h6 hp
                  go_simp
                  refine Or.inl ?_
                  have H1 := H
                  refine hK _ _ ⟨v49, v50, v51, v52, v53, v54, _, _, v57, v58, v59, v60, v61, v62, v63, rfl, ⟨?_, ?_, ?_, ?_, ?_, ?_, ?_, ?_, ?_, ?_, ?_, ?_, ?_, ?_, ?_, ?_, ?_, ?_⟩⟩
                  · exact fun hl => H1.hb (by simpa using hl)
                  · exact fun hl => H1.e14 (by simpa using hl)
                  · exact fun hl => H1.h0 (by simpa using hl)
                  · exact fun hl => H1.h1 (by simpa using hl)
                  · exact fun hl hl5 => H1.h2 (by simpa using hl) (by simpa using hl5)
                  · exact fun hl => H1.h3 (by simpa using hl)
                  · exact fun hl hl5 => H1.h4 (by simpa using hl) (by simpa using hl5)
                  · exact fun hl hl5 => H1.h5 (by simpa using hl) (by simpa using hl5)
                  · exact fun hl => H1.h6 (by simpa using hl)
                  · exact fun _ => by first | rfl | rw [HI2.out] | (rw [← HI2.out])
                  · exact fun hl => H1.h8 (by simpa using hl)
                  · exact fun hl => H1.h9 (by simpa using hl)
                  · exact fun hl => H1.h10 (by simpa using hl)
                  · exact fun hl => H1.h11 (by simpa using hl)
                  · exact fun hl => H1.h12 (by simpa using hl)
                  · exact fun hl => H1.h13 (by simpa using hl)
                  · exact fun hl => by have := H1.o5 (by simpa using hl); simp [this]
                  · exact fun hl => by have := H1.o14 (by simpa using hl); simp [this]
                · -- operation 8
                  go_simp
                  refine Or.inl ?_
                  have H1 := H
                  refine hK _ _ ⟨v49, v50, v51, v52, v53, v54, v55, v56, _, v58, v59, v60, v61, v62, v63, rfl, ⟨?_, ?_, ?_, ?_, ?_, ?_, ?_, ?_, ?_, ?_, ?_, ?_, ?_, ?_, ?_, ?_, ?_, ?_⟩⟩
                  · exact fun hl => H1.hb (by simpa using hl)
                  · exact fun hl => H1.e14 (by simpa using hl)
                  · exact fun hl => H1.h0 (by simpa using hl)
                  · exact fun hl => H1.h1 (by simpa using hl)
                  · exact fun hl hl5 => H1.h2 (by simpa using hl) (by simpa using hl5)
                  · exact fun hl => H1.h3 (by simpa using hl)
                  · exact fun hl hl5 => H1.h4 (by simpa using hl) (by simpa using hl5)
                  · exact fun hl hl5 => H1.h5 (by simpa using hl) (by simpa using hl5)
                  · exact fun hl => H1.h6 (by simpa using hl)
                  · exact fun hl => H1.h7 (by simpa using hl)
                  · exact fun _ => by first | rfl | rw [HI2.out] | (rw [← HI2.out])
                  · exact fun hl => H1.h9 (by simpa using hl)
                  · exact fun hl => H1.h10 (by simpa using hl)
                  · exact fun hl => H1.h11 (by simpa using hl)
                  · exact fun hl => H1.h12 (by simpa using hl)
                  · exact fun hl => H1.h13 (by simpa using hl)
                  · exact fun hl => by have := H1.o5 (by simpa using hl); simp [this]
                  · exact fun hl => by have := H1.o14 (by simpa using hl); simp [this]
                · -- operation 9
                  go_simp
                  refine Or.inl ?_
                  have H1 := H
                  refine hK _ _ ⟨v49, v50, v51, v52, v53, v54, v55, v56, v57, _, v59, v60, v61, v62, v63, rfl, ⟨?_, ?_, ?_, ?_, ?_, ?_, ?_, ?_, ?_, ?_, ?_, ?_, ?_, ?_, ?_, ?_, ?_, ?_⟩⟩
                  · exact fun hl => H1.hb (by simpa using hl)
                  · exact fun hl => H1.e14 (by simpa using hl)
                  · exact fun hl => H1.h0 (by simpa using hl)
                  · exact fun hl => H1.h1 (by simpa using hl)
                  · exact fun hl hl5 => H1.h2 (by simpa using hl) (by simpa using hl5)
                  · exact fun hl => H1.h3 (by simpa using hl)
                  · exact fun hl hl5 => H1.h4 (by simpa using hl) (by simpa using hl5)
                  · exact fun hl hl5 => H1.h5 (by simpa using hl) (by simpa using hl5)
                  · exact fun hl => H1.h6 (by simpa using hl)
                  · exact fun hl => H1.h7 (by simpa using hl)
                  · exact fun hl => H1.h8 (by simpa using hl)
                  · exact fun _ => by first | rfl | rw [HI2.out] | (rw [← HI2.out])
                  · exact fun hl => H1.h10 (by simpa using hl)
                  · exact fun hl => H1.h11 (by simpa using hl)
                  · exact fun hl => H1.h12 (by simpa using hl)
                  · exact fun hl => H1.h13 (by simpa using hl)
                  · exact fun hl => by have := H1.o5 (by simpa using hl); simp [this]
                  · exact fun hl => by have := H1.o14 (by simpa using hl); simp [this]
                · -- operation 10
                  go_simp
                  refine Or.inl ?_
                  have H1 := H
                  refine hK _ _ ⟨v49, v50, v51, v52, v53, v54, v55, v56, v57, v58, _, v60, v61, v62, v63, rfl, ⟨?_, ?_, ?_, ?_, ?_, ?_, ?_, ?_, ?_, ?_, ?_, ?_, ?_, ?_, ?_, ?_, ?_, ?_⟩⟩
                  · exact fun hl => H1.hb (by simpa using hl)
                  · exact fun hl => H1.e14 (by simpa using hl)
                  · exact fun hl => H1.h0 (by simpa using hl)
                  · exact fun hl => H1.h1 (by simpa using hl)
                  · exact fun hl hl5 => H1.h2 (by simpa using hl) (by simpa using hl5)
                  · exact fun hl => H1.h3 (by simpa using hl)
                  · exact fun hl hl5 => H1.h4 (by simpa using hl) (by simpa using hl5)
                  · exact fun hl hl5 => H1.h5 (by simpa using hl) (by simpa using hl5)
                  · exact fun hl => H1.h6 (by simpa using hl)
                  · exact fun hl => H1.h7 (by simpa using hl)
                  · exact fun hl => H1.h8 (by simpa using hl)
                  · exact fun hl => H1.h9 (by simpa using hl)
                  · exact fun _ => by first | rfl | rw [HI2.out] | (rw [← HI2.out])
                  · exact fun hl => H1.h11 (by simpa using hl)
                  · exact fun hl => H1.h12 (by simpa using hl)
                  · exact fun hl => H1.h13 (by simpa using hl)
                  · exact fun hl => by have := H1.o5 (by simpa using hl); simp [this]
                  · exact fun hl => by have := H1.o14 (by simpa using hl); simp [this]
                · -- operation 11
                  obtain rfl := H.h9 hp.1
                  obtain rfl := H.h10 hp.2
                  go_simp
                  refine Or.inl ?_
                  have H1 := H
                  refine hK _ _ ⟨v49, v50, v51, v52, v53, v54, v55, v56, v57, _, _, _, v61, v62, v63, rfl, ⟨?_, ?_, ?_, ?_, ?_, ?_, ?_, ?_, ?_, ?_, ?_, ?_, ?_, ?_, ?_, ?_, ?_, ?_⟩⟩
                  · exact fun hl => H1.hb (by simpa using hl)
                  · exact fun hl => H1.e14 (by simpa using hl)
                  · exact fun hl => H1.h0 (by simpa using hl)
                  · exact fun hl => H1.h1 (by simpa using hl)
                  · exact fun hl hl5 => H1.h2 (by simpa using hl) (by simpa using hl5)
                  · exact fun hl => H1.h3 (by simpa using hl)
                  · exact fun hl hl5 => H1.h4 (by simpa using hl) (by simpa using hl5)
                  · exact fun hl hl5 => H1.h5 (by simpa using hl) (by simpa using hl5)
                  · exact fun hl => H1.h6 (by simpa using hl)
                  · exact fun hl => H1.h7 (by simpa using hl)
                  · exact fun hl => H1.h8 (by simpa using hl)
                  · exact fun hl => H1.h9 (by simpa using hl)
                  · exact fun hl => H1.h10 (by simpa using hl)
                  · exact fun _ => by first | rfl | rw [HI2.out] | (rw [← HI2.out])
                  · exact fun hl => H1.h12 (by simpa using hl)
                  · exact fun hl => H1.h13 (by simpa using hl)
                  · exact fun hl => by have := H1.o5 (by simpa using hl); simp [this]
                  · exact fun hl => by have := H1.o14 (by simpa using hl); simp [this]
                · -- operation 12
                  obtain rfl := H.h11 hp
                  go_simp
                  refine Or.inl ?_
                  have H1 := H
                  refine hK _ _ ⟨v49, v50, v51, v52, v53, v54, v55, v56, v57, v58, v59, _, _, v62, v63, rfl, ⟨?_, ?_, ?_, ?_, ?_, ?_, ?_, ?_, ?_, ?_, ?_, ?_, ?_, ?_, ?_, ?_, ?_, ?_⟩⟩
                  · exact fun hl => H1.hb (by simpa using hl)
                  · exact fun hl => H1.e14 (by simpa using hl)
                  · exact fun hl => H1.h0 (by simpa using hl)
                  · exact fun hl => H1.h1 (by simpa using hl)
                  · exact fun hl hl5 => H1.h2 (by simpa using hl) (by simpa using hl5)
                  · exact fun hl => H1.h3 (by simpa using hl)
                  · exact fun hl hl5 => H1.h4 (by simpa using hl) (by simpa using hl5)
                  · exact fun hl hl5 => H1.h5 (by simpa using hl) (by simpa using hl5)
                  · exact fun hl => H1.h6 (by simpa using hl)
                  · exact fun hl => H1.h7 (by simpa using hl)
                  · exact fun hl => H1.h8 (by simpa using hl)
                  · exact fun hl => H1.h9 (by simpa using hl)
                  · exact fun hl => H1.h10 (by simpa using hl)
                  · exact fun hl => H1.h11 (by simpa using hl)
                  · exact fun _ => by first | rfl | rw [HI2.out] | (rw [← HI2.out])
                  · exact fun hl => H1.h13 (by simpa using hl)
                  · exact fun hl => by have := H1.o5 (by simpa using hl); simp [this]
                  · exact fun hl => by have := H1.o14 (by simpa using hl); simp [this]
                · -- operation 13
                  obtain rfl := H.h8 hp.1
                  obtain rfl := H.h12 hp.2
                  go_simp
                  refine Or.inl ?_
                  have H1 := H
                  refine hK _ _ ⟨v49, v50, v51, v52, v53, v54, v55, v56, _, v58, v59, v60, _, _, v63, rfl, ⟨?_, ?_, ?_, ?_, ?_, ?_, ?_, ?_, ?_, ?_, ?_, ?_, ?_, ?_, ?_, ?_, ?_, ?_⟩⟩
                  · exact fun hl => H1.hb (by simpa using hl)
                  · exact fun hl => H1.e14 (by simpa using hl)
                  · exact fun hl => H1.h0 (by simpa using hl)
                  · exact fun hl => H1.h1 (by simpa using hl)
                  · exact fun hl hl5 => H1.h2 (by simpa using hl) (by simpa using hl5)
                  · exact fun hl => H1.h3 (by simpa using hl)
                  · exact fun hl hl5 => H1.h4 (by simpa using hl) (by simpa using hl5)
                  · exact fun hl hl5 => H1.h5 (by simpa using hl) (by simpa using hl5)
                  · exact fun hl => H1.h6 (by simpa using hl)
                  · exact fun hl => H1.h7 (by simpa using hl)
                  · exact fun hl => H1.h8 (by simpa using hl)
                  · exact fun hl => H1.h9 (by simpa using hl)
                  · exact fun hl => H1.h10 (by simpa using hl)
                  · exact fun hl => H1.h11 (by simpa using hl)
                  · exact fun hl => H1.h12 (by simpa using hl)
                  · exact fun _ => by first | rfl | rw [HI2.out] | (rw [← HI2.out])
                  · exact fun hl => by have := H1.o5 (by simpa using hl); simp [this]
                  · exact fun hl => by have := H1.o14 (by simpa using hl); simp [this]
                · -- operation 14
                  obtain rfl := H.h0 hp.1
                  obtain rfl := H.h7 hp.2.2.1
                  obtain rfl := H.h13 hp.2.2.2.1
                  have hlv := H.h5 hp.2.1 hL
                  have hbc := H.hb hL
                  go_simp
                  refine Or.inl ?_
                  try rw [HI2.out]
                  refine (IH.out k1 hk1d (list ++ [i]) (long + x) bi v54 vi Wc (by omega) (by rw [List.length_append, List.length_singleton]; omega) (by omega) (by rw [List.length_append, List.length_singleton]; omega) hlv (fun e => by simp at e) (HFi.out.same (impl_FirstJoined.grown_of_below hbc none))).mono ?_
                  rintro e w' ⟨rfl, vb', hF', hg'⟩
                  have H1 := H
                  refine hK _ _ ⟨_, v50, v51, v52, v53, v54, v55, _, v57, v58, v59, v60, v61, _, _, rfl, ⟨?_, ?_, ?_, ?_, ?_, ?_, ?_, ?_, ?_, ?_, ?_, ?_, ?_, ?_, ?_, ?_, ?_, ?_⟩⟩
                  · exact fun hl => by simp at hl
                  · exact fun _ => ⟨vb', hF', (impl_FirstJoined.grown_of_below hbc (some Bb)).trans hg'⟩
                  · exact fun hl => H1.h0 (by simpa using hl)
                  · exact fun hl => H1.h1 (by simpa using hl)
                  · exact fun _ hl5 => by simp [hp] at hl5
                  · exact fun hl => H1.h3 (by simpa using hl)
                  · exact fun _ hl5 => by simp [hp] at hl5
                  · exact fun _ hl5 => by simp at hl5
                  · exact fun hl => H1.h6 (by simpa using hl)
                  · exact fun hl => by first | rfl | rw [HI2.out] | (rw [← HI2.out])
                  · exact fun hl => H1.h8 (by simpa using hl)
                  · exact fun hl => H1.h9 (by simpa using hl)
                  · exact fun hl => H1.h10 (by simpa using hl)
                  · exact fun hl => H1.h11 (by simpa using hl)
                  · exact fun hl => H1.h12 (by simpa using hl)
                  · exact fun hl => H1.h13 (by simpa using hl)
                  · exact fun hl => by have := H1.o5 (by simpa using hl); simp [this]
                  · exact fun _ => by simp [hp]
        · have d2 : decide ((list.length : Int) < (b.length : Int)) = false := decide_eq_false (by omega)
          have hu : impl_FirstJoined.upd gap lap rest list long (some b) = some b := by
            unfold impl_FirstJoined.upd
            rw [if_pos ⟨by omega, by rw [hz]; exact cnd⟩]
            show (if list.length < b.length then some list else some b) = some b
            rw [if_neg hsh]
          rw [hu]
          go_enter Try.func28, Try.ntmps28
          go_wp2
          have HF2 := HF
          have HG2 := Aside0.mk (World.grownBy.refl W (some Bb))
          go_loopg [12] d (fun kq v12 w' => ∃ (bi : Option (List Int)) (vi : Value), v12 = .int .i64 ((pl.length : Int) - (kq : Int)) ∧ Aside0 (kq ≤ d) ∧ Aside0 (impl_FirstJoined.lo gap lap rest pl kq list long bi = impl_FirstJoined.lo gap lap rest pl d list long (some b)) ∧ Aside0 (impl_FirstJoined.Fx w0 Bl Bg Br Bb Bp Bc gap lap rest (.slice (some ad) pl.length c1) w' bi vi) ∧ Aside0 (W.grownBy w' (some Bb)))
          case atStart => exact ⟨_, _, rfl, ⟨Nat.le_refl _⟩, ⟨rfl⟩, HF2, HG2⟩
          case round =>
            obtain ⟨bi, vi, rfl, HK, HE, HFi, HG⟩ := hrel
            have p1 := HFi.out.cl.cell
            have p4 := HFi.out.cb.cell
            have p5 := HFi.out.cp.cell
            have p6 := HFi.out.cc.cell
            have p7 := HFi.out.b0
            cases gk with
            | zero =>
              have hd1 : decide ((pl.length : Int) - ((0 : Nat) : Int) < (pl.length : Int)) = false := decide_eq_false (by omega)
              go_wp2
              go_end0
              exact ⟨rfl, vi, by have := HE.out; simp only [impl_FirstJoined.lo] at this; rw [← this]; exact HFi.out, HG.out⟩
            | succ k1 =>
              have hd1 : decide ((pl.length : Int) - ((k1 + 1 : Nat) : Int) < (pl.length : Int)) = true := decide_eq_true (by omega)
              go_wp2
              obtain ⟨i, hi⟩ : ∃ i : Int, (pl.length : Int) - ((k1 + 1 : Nat) : Int) = i := ⟨_, rfl⟩
              have hk1d : k1 < d := by have := HK.out; omega
              have HI2 := Aside0.mk (show i + 1 = (pl.length : Int) - (k1 : Int) by omega)
              have hi0 : 0 ≤ i := by omega
              have hi1 : i < (pl.length : Int) := by omega
              obtain ⟨x, hx⟩ : ∃ x : Int, rd pl i = x := ⟨_, rfl⟩
              have hxr := HR.out i.toNat (by omega)
              have hxb := HB.out.2.2.2.2 i.toNat (by omega)
              have hpl := HB.out.2.2.2.1.2
              rw [show ((i.toNat : Nat) : Int) = i by omega, hx] at hxr hxb
              have wi1 : wrap64 (i + 1) = i + 1 := by unfold wrap64; omega
              have wi1' : IntKind.i64.wrap (i + 1) = i + 1 := (i64_w _).trans wi1
              have wx1 : wrap64 (long + x) = long + x := by unfold wrap64; omega
              have wx1' : IntKind.i64.wrap (long + x) = long + x := (i64_w _).trans wx1
              have HLEN := Aside0.mk (show list.length ≤ 100 by omega)
              have HVr := Aside0.mk (HV.out.kept HF.out.cb HG.out)
              have HSZ := Aside0.mk (below_size HFi.out.b0)
              have HE2 := HE.out
              simp only [impl_FirstJoined.lo] at HE2
              rw [hi, hx] at HE2
              have HE3 := Aside0.mk HE2
              clear HE2
              rw [hi]
              have hdec : decide ((pl.length : Int) - ((k1 : Int) + 1) < (pl.length : Int)) = true := decide_eq_true (by omega)
              rw [hdec]
              refine region_inv (J := fun L a Wc => ∃ v49 v50 v51 v52 v53 v54 v55 v56 v57 v58 v59 v60 v61 v62 v63 : Value, a = { tmps := #[Value.slice (some ⟨g, 0, none⟩) list.length c, Value.int IntKind.i64 ((pl.length : Int) - (d : Int)), Value.int IntKind.i64 long, Value.pointer (some ⟨Bl, 0, none⟩), Value.pointer (some ⟨Bg, 0, none⟩), Value.pointer (some ⟨Br, 0, none⟩), Value.pointer (some ⟨Bb, 0, none⟩), Value.pointer (some ⟨Bp, 0, none⟩), Value.pointer (some ⟨Bc, 0, none⟩), undef, undef, undef, Value.int IntKind.i64 i, Value.slice (some ⟨g, 0, none⟩) list.length c, Value.int IntKind.i64 (list.length : Int), Value.bool true, Value.bool true, Value.int IntKind.i64 long, Value.int IntKind.i64 lap, Value.slice (some ⟨g, 0, none⟩) list.length c, Value.int IntKind.i64 (list.length : Int), Value.int IntKind.i64 ((list.length : Int) - 1), Value.int IntKind.i64 z, Value.int IntKind.i64 (long - z), Value.int IntKind.i64 gap, Value.int IntKind.i64 rest, Value.int IntKind.i64 (2 * rest), Value.int IntKind.i64 (gap + 2 * rest), Value.bool true, Value.bool true, Value.bool true, Value.slice (some ⟨gb, 0, none⟩) b.length cb, Value.bool false, Value.bool false, Value.slice (some ⟨g, 0, none⟩) list.length c, Value.int IntKind.i64 (list.length : Int), Value.slice (some ⟨gb, 0, none⟩) b.length cb, Value.int IntKind.i64 (b.length : Int), Value.bool false, Value.bool false, Value.bool false, undef, Value.int IntKind.i64 ((pl.length : Int) - (d : Int)), Value.int IntKind.i64 i, Value.slice (some ad) pl.length c1, Value.int IntKind.i64 (pl.length : Int), Value.bool true, u47, u48, v49, v50, v51, v52, v53, v54, v55, v56, v57, v58, v59, v60, v61, v62, v63], defers := [] } ∧ impl_FirstJoined.RS w0 wr Bl Bg Br Bb Bp Bc gap lap rest (.slice (some ad) pl.length c1) (.func (.func 28) #[] #[.pointer (some ⟨Bl, 0, none⟩), .pointer (some ⟨Bg, 0, none⟩), .pointer (some ⟨Br, 0, none⟩), .pointer (some ⟨Bb, 0, none⟩), .pointer (some ⟨Bp, 0, none⟩), .pointer (some ⟨Bc, 0, none⟩)]) (.slice (some ⟨g, 0, none⟩) list.length c) ad list i long x (impl_FirstJoined.lo gap lap rest pl k1 (list ++ [i]) (long + x) (impl_FirstJoined.upd gap lap rest (list ++ [i]) (long + x) bi)) L v49 v50 v51 v52 v53 v54 v55 v56 v57 v58 v59 v60 v61 v62 v63 Wc) (by kernel_rfl) (by kernel_rfl) ?start ?step ?fin
              case start => exact ⟨_, _, _, _, _, _, _, _, _, _, _, _, _, _, _, rfl, ⟨fun _ => below_drew1 (Below.refl _ _), nofun, nofun, nofun, nofun, nofun, nofun, nofun, nofun, nofun, nofun, nofun, nofun, nofun, nofun, nofun, nofun, nofun⟩⟩
              case fin =>
                rintro L a Wc hall ⟨v49, v50, v51, v52, v53, v54, v55, v56, v57, v58, v59, v60, v61, v62, v63, rfl, H⟩
                obtain ⟨vb', hF', hg'⟩ := H.e14 (hall 14 (by decide))
                have HF4 := Aside0.mk hF'
                have HG4 := Aside0.mk (HG.out.trans hg')
                obtain rfl := H.h3 (hall 3 (by decide))
                clear H hall hF' hg'
                go_wp2
                go_roundg k1
                case measure => omega
                case rel => exact ⟨_, vb', by first | rfl | rw [HI2.out] | (rw [← HI2.out]), ⟨by omega⟩, ⟨HE3.out⟩, HF4, HG4⟩
              case step =>
                rintro L a Wc j o ho hL hp ⟨v49, v50, v51, v52, v53, v54, v55, v56, v57, v58, v59, v60, v61, v62, v63, rfl, H⟩
                have hj : j < 15 := (Array.getElem?_eq_some_iff.1 ho).1
                have hcell : Wc.cell? ⟨Bc, 0, none⟩ = some (.func (.func 28) #[] #[.pointer (some ⟨Bl, 0, none⟩), .pointer (some ⟨Bg, 0, none⟩), .pointer (some ⟨Br, 0, none⟩), .pointer (some ⟨Bb, 0, none⟩), .pointer (some ⟨Bp, 0, none⟩), .pointer (some ⟨Bc, 0, none⟩)]) ∧ Wc.cell? ⟨Bp, 0, none⟩ = some (.slice (some ad) pl.length c1) ∧ Wc.cell? (ad.add i.toNat) = some (.int .i64 x) := by
                  cases e : L 14 with
                  | false =>
                    have hF2 := HFi.out.same (impl_FirstJoined.grown_of_below (H.hb e) none)
                    exact ⟨hF2.cc.cell, hF2.cp.cell, (hF2.b0.cell (World.block_lt_of_cell? w0 _ hxr)).trans hxr⟩
                  | true =>
                    obtain ⟨_, hF2, _⟩ := H.e14 e
                    exact ⟨hF2.cc.cell, hF2.cp.cell, (hF2.b0.cell (World.block_lt_of_cell? w0 _ hxr)).trans hxr⟩
                obtain ⟨hc1, hc2, hc3⟩ := hcell
                rcases (show j = 0 ∨ j = 1 ∨ j = 2 ∨ j = 3 ∨ j = 4 ∨ j = 5 ∨ j = 6 ∨ j = 7 ∨ j = 8 ∨ j = 9 ∨ j = 10 ∨ j = 11 ∨ j = 12 ∨ j = 13 ∨ j = 14 by omega) with rfl | rfl | rfl | rfl | rfl | rfl | rfl | rfl | rfl | rfl | rfl | rfl | rfl | rfl | rfl
                all_goals (obtain rfl : _ = o := Option.some.inj (show some _ = some o from ho); simp [Region.binds] at hp; refine impl_FirstJoined.wpOp_of rfl (fun K hK => ?_))
                · -- operation 0
                  go_simp
                  refine Or.inl ?_
                  have H1 := H
                  refine hK _ _ ⟨_, v50, v51, v52, v53, v54, v55, v56, v57, v58, v59, v60, v61, v62, v63, rfl, ⟨?_, ?_, ?_, ?_, ?_, ?_, ?_, ?_, ?_, ?_, ?_, ?_, ?_, ?_, ?_, ?_, ?_, ?_⟩⟩
                  · exact fun hl => H1.hb (by simpa using hl)
                  · exact fun hl => H1.e14 (by simpa using hl)
                  · exact fun _ => by first | rfl | rw [HI2.out] | (rw [← HI2.out])
                  · exact fun hl => H1.h1 (by simpa using hl)
                  · exact fun hl hl5 => H1.h2 (by simpa using hl) (by simpa using hl5)
                  · exact fun hl => H1.h3 (by simpa using hl)
                  · exact fun hl hl5 => H1.h4 (by simpa using hl) (by simpa using hl5)
                  · exact fun hl hl5 => H1.h5 (by simpa using hl) (by simpa using hl5)
                  · exact fun hl => H1.h6 (by simpa using hl)
                  · exact fun hl => H1.h7 (by simpa using hl)
                  · exact fun hl => H1.h8 (by simpa using hl)
                  · exact fun hl => H1.h9 (by simpa using hl)
                  · exact fun hl => H1.h10 (by simpa using hl)
                  · exact fun hl => H1.h11 (by simpa using hl)
                  · exact fun hl => H1.h12 (by simpa using hl)
                  · exact fun hl => H1.h13 (by simpa using hl)
                  · exact fun hl => by have := H1.o5 (by simpa using hl); simp [this]
                  · exact fun hl => by have := H1.o14 (by simpa using hl); simp [this]
                · -- operation 1
                  go_simp
                  refine Or.inl ?_
                  have H1 := H
                  refine hK _ _ ⟨v49, _, v51, v52, v53, v54, v55, v56, v57, v58, v59, v60, v61, v62, v63, rfl, ⟨?_, ?_, ?_, ?_, ?_, ?_, ?_, ?_, ?_, ?_, ?_, ?_, ?_, ?_, ?_, ?_, ?_, ?_⟩⟩
                  · exact fun hl => H1.hb (by simpa using hl)
                  · exact fun hl => H1.e14 (by simpa using hl)
                  · exact fun hl => H1.h0 (by simpa using hl)
                  · exact fun _ => by first | rfl | rw [HI2.out] | (rw [← HI2.out])
                  · exact fun hl hl5 => H1.h2 (by simpa using hl) (by simpa using hl5)
                  · exact fun hl => H1.h3 (by simpa using hl)
                  · exact fun hl hl5 => H1.h4 (by simpa using hl) (by simpa using hl5)
                  · exact fun hl hl5 => H1.h5 (by simpa using hl) (by simpa using hl5)
                  · exact fun hl => H1.h6 (by simpa using hl)
                  · exact fun hl => H1.h7 (by simpa using hl)
                  · exact fun hl => H1.h8 (by simpa using hl)
                  · exact fun hl => H1.h9 (by simpa using hl)
                  · exact fun hl => H1.h10 (by simpa using hl)
                  · exact fun hl => H1.h11 (by simpa using hl)
                  · exact fun hl => H1.h12 (by simpa using hl)
                  · exact fun hl => H1.h13 (by simpa using hl)
                  · exact fun hl => by have := H1.o5 (by simpa using hl); simp [this]
                  · exact fun hl => by have := H1.o14 (by simpa using hl); simp [this]
                · -- operation 2
                  obtain rfl := H.h1 hp
                  have h14 : L 14 = false := by cases e : L 14 with | false => rfl | true => exact absurd (H.o5 (H.o14 e)).1 (by simp [hL])
                  have hbc := H.hb h14
                  go_simp
                  refine Or.inl ?_
                  refine (impl_FirstJoined.clone w0.heap.size Wc _ list (HVr.out.below hbc) (Nat.le_trans HSZ.out hbc.size) HLEN.out).mono ?_
                  rintro e w' ⟨v', rfl, hlv, hbw, hfr⟩
                  have H1 := H.world h14 hbw
                  refine hK _ _ ⟨v49, _, _, v52, v53, v54, v55, v56, v57, v58, v59, v60, v61, v62, v63, rfl, ⟨?_, ?_, ?_, ?_, ?_, ?_, ?_, ?_, ?_, ?_, ?_, ?_, ?_, ?_, ?_, ?_, ?_, ?_⟩⟩
                  · exact fun hl => H1.hb (by simpa using hl)
                  · exact fun hl => H1.e14 (by simpa using hl)
                  · exact fun hl => H1.h0 (by simpa using hl)
                  · exact fun hl => H1.h1 (by simpa using hl)
                  · exact fun _ _ => ⟨hlv, fun k hk => Nat.le_trans hbc.size (hfr k hk)⟩
                  · exact fun hl => H1.h3 (by simpa using hl)
                  · exact fun hl hl5 => H1.h4 (by simpa using hl) (by simpa using hl5)
                  · exact fun hl hl5 => H1.h5 (by simpa using hl) (by simpa using hl5)
                  · exact fun hl => H1.h6 (by simpa using hl)
                  · exact fun hl => H1.h7 (by simpa using hl)
                  · exact fun hl => H1.h8 (by simpa using hl)
                  · exact fun hl => H1.h9 (by simpa using hl)
                  · exact fun hl => H1.h10 (by simpa using hl)
                  · exact fun hl => H1.h11 (by simpa using hl)
                  · exact fun hl => H1.h12 (by simpa using hl)
                  · exact fun hl => H1.h13 (by simpa using hl)
                  · exact fun hl => by have := H1.o5 (by simpa using hl); simp [this]
                  · exact fun hl => by have := H1.o14 (by simpa using hl); simp [this]
                · -- operation 3
                  go_simp
                  refine Or.inl ?_
                  have H1 := H
                  refine hK _ _ ⟨v49, v50, v51, _, v53, v54, v55, v56, v57, v58, v59, v60, v61, v62, v63, rfl, ⟨?_, ?_, ?_, ?_, ?_, ?_, ?_, ?_, ?_, ?_, ?_, ?_, ?_, ?_, ?_, ?_, ?_, ?_⟩⟩
                  · exact fun hl => H1.hb (by simpa using hl)
                  · exact fun hl => H1.e14 (by simpa using hl)
                  · exact fun hl => H1.h0 (by simpa using hl)
                  · exact fun hl => H1.h1 (by simpa using hl)
                  · exact fun hl hl5 => H1.h2 (by simpa using hl) (by simpa using hl5)
                  · exact fun _ => by first | rfl | rw [HI2.out] | (rw [← HI2.out])
                  · exact fun hl hl5 => H1.h4 (by simpa using hl) (by simpa using hl5)
                  · exact fun hl hl5 => H1.h5 (by simpa using hl) (by simpa using hl5)
                  · exact fun hl => H1.h6 (by simpa using hl)
                  · exact fun hl => H1.h7 (by simpa using hl)
                  · exact fun hl => H1.h8 (by simpa using hl)
                  · exact fun hl => H1.h9 (by simpa using hl)
                  · exact fun hl => H1.h10 (by simpa using hl)
                  · exact fun hl => H1.h11 (by simpa using hl)
                  · exact fun hl => H1.h12 (by simpa using hl)
                  · exact fun hl => H1.h13 (by simpa using hl)
                  · exact fun hl => by have := H1.o5 (by simpa using hl); simp [this]
                  · exact fun hl => by have := H1.o14 (by simpa using hl); simp [this]
                · -- operation 4
                  obtain rfl := H.h3 hp
                  have h14 : L 14 = false := by cases e : L 14 with | false => rfl | true => exact absurd (H.o5 (H.o14 e)).2 (by simp [hL])
                  go_simp
                  refine Or.inl ?_
                  have H1 := H.world h14 (below_alloc (Below.refl _ _) (Obj.cells #[.int .i64 i] 3))
                  refine hK _ _ ⟨v49, v50, v51, _, _, v54, v55, v56, v57, v58, v59, v60, v61, v62, v63, rfl, ⟨?_, ?_, ?_, ?_, ?_, ?_, ?_, ?_, ?_, ?_, ?_, ?_, ?_, ?_, ?_, ?_, ?_, ?_⟩⟩
                  · exact fun hl => H1.hb (by simpa using hl)
                  · exact fun hl => H1.e14 (by simpa using hl)
                  · exact fun hl => H1.h0 (by simpa using hl)
                  · exact fun hl => H1.h1 (by simpa using hl)
                  · exact fun hl hl5 => H1.h2 (by simpa using hl) (by simpa using hl5)
                  · exact fun hl => H1.h3 (by simpa using hl)
                  · exact fun _ _ => ⟨Wc.heap.size, rfl, Boxed.new Wc _ _⟩
                  · exact fun hl hl5 => H1.h5 (by simpa using hl) (by simpa using hl5)
                  · exact fun hl => H1.h6 (by simpa using hl)
                  · exact fun hl => H1.h7 (by simpa using hl)
                  · exact fun hl => H1.h8 (by simpa using hl)
                  · exact fun hl => H1.h9 (by simpa using hl)
                  · exact fun hl => H1.h10 (by simpa using hl)
                  · exact fun hl => H1.h11 (by simpa using hl)
                  · exact fun hl => H1.h12 (by simpa using hl)
                  · exact fun hl => H1.h13 (by simpa using hl)
                  · exact fun hl => by have := H1.o5 (by simpa using hl); simp [this]
                  · exact fun hl => by have := H1.o14 (by simpa using hl); simp [this]
                · -- operation 5
                  have h14 : L 14 = false := by cases e : L 14 with | false => rfl | true => exact absurd (H.o14 e) (by simp [hL])
                  obtain ⟨hlv, hfr⟩ := H.h2 hp.1 hL
                  obtain ⟨gb5, rfl, hg5⟩ := H.h4 hp.2.1 hL
                  obtain ⟨i0, hi0, hi1⟩ := Option.map_eq_some_iff.1 info3
                  simp only [Prod.mk.injEq] at hi1
                  rw [if_pos (by rfl)]
                  refine Or.inl (wp_append_own Wc (.tmp 51) (.tmp 53) 22 rfl w0.heap.size 3 i0 (.int .i64 0) 1 8 Try.underlying22 hi0 hi1.1 hi1.2.1 hi1.2.2 rfl (by decide) v51 list.length (list.map (Value.int .i64)) rfl hlv ⟨gb5, 0, none⟩ 1 1 [.int .i64 i] rfl rfl (fun j u hj => ?_) (fun u hu => ?_) (by have := HLEN.out; unfold maxLen; omega) (by have := HLEN.out; omega) (Nat.le_trans HSZ.out (H.hb h14).size) (fun v' w' hown hgr _ => ?_))
                  · match j, hj with
                    | 0, hj => (obtain rfl := Option.some.inj (show some _ = some u from hj); exact (Boxed.cell (t := 3) hg5))
                  · simp only [List.mem_singleton] at hu; subst hu; rfl
                  have H1 := H
                  have hbg := (H.hb h14).grown hgr (H.hb h14).size (fun k hk => hfr k hk)
                  refine hK _ _ ⟨v49, v50, v51, v52, _, _, v55, v56, v57, v58, v59, v60, v61, v62, v63, rfl, ⟨?_, ?_, ?_, ?_, ?_, ?_, ?_, ?_, ?_, ?_, ?_, ?_, ?_, ?_, ?_, ?_, ?_, ?_⟩⟩
                  · exact fun _ => hbg
                  · exact fun hl => by simp [h14] at hl
                  · exact fun hl => H1.h0 (by simpa using hl)
                  · exact fun hl => H1.h1 (by simpa using hl)
                  · exact fun hl hl5 => by simp at hl5
                  · exact fun hl => H1.h3 (by simpa using hl)
                  · exact fun hl hl5 => by simp at hl5
                  · exact fun _ _ => by have := hown; unfold impl_FirstJoined.LV; rw [List.length_append, List.map_append]; exact this
                  · exact fun hl => H1.h6 (by simpa using hl)
                  · exact fun hl => H1.h7 (by simpa using hl)
                  · exact fun hl => H1.h8 (by simpa using hl)
                  · exact fun hl => H1.h9 (by simpa using hl)
                  · exact fun hl => H1.h10 (by simpa using hl)
                  · exact fun hl => H1.h11 (by simpa using hl)
                  · exact fun hl => H1.h12 (by simpa using hl)
                  · exact fun hl => H1.h13 (by simpa using hl)
                  · exact fun _ => by simp [hp]
                  · exact fun hl => by simp
                · -- operation 6
                  go_simp
                  refine Or.inl ?_
                  have H1 := H
                  refine hK _ _ ⟨v49, v50, v51, v52, v53, v54, _, v56, v57, v58, v59, v60, v61, v62, v63, rfl, ⟨?_, ?_, ?_, ?_, ?_, ?_, ?_, ?_, ?_, ?_, ?_, ?_, ?_, ?_, ?_, ?_, ?_, ?_⟩⟩
                  · exact fun hl => H1.hb (by simpa using hl)
                  · exact fun hl => H1.e14 (by simpa using hl)
                  · exact fun hl => H1.h0 (by simpa using hl)
                  · exact fun hl => H1.h1 (by simpa using hl)
                  · exact fun hl hl5 => H1.h2 (by simpa using hl) (by simpa using hl5)
                  · exact fun hl => H1.h3 (by simpa using hl)
                  · exact fun hl hl5 => H1.h4 (by simpa using hl) (by simpa using hl5)
                  · exact fun hl hl5 => H1.h5 (by simpa using hl) (by simpa using hl5)
                  · exact fun _ => by first | rfl | rw [HI2.out] | (rw [← HI2.out])
                  · exact fun hl => H1.h7 (by simpa using hl)
                  · exact fun hl => H1.h8 (by simpa using hl)
                  · exact fun hl => H1.h9 (by simpa using hl)
                  · exact fun hl => H1.h10 (by simpa using hl)
                  · exact fun hl => H1.h11 (by simpa using hl)
                  · exact fun hl => H1.h12 (by simpa using hl)
                  · exact fun hl => H1.h13 (by simpa using hl)
                  · exact fun hl => by have := H1.o5 (by simpa using hl); simp [this]
                  · exact fun hl => by have := H1.o14 (by simpa using hl); simp [this]
                · -- operation 7
                  obtain rfl := H.h6 hp
                  go_simp
                  refine Or.inl ?_
                  have H1 := H
                  refine hK _ _ ⟨v49, v50, v51, v52, v53, v54, _, _, v57, v58, v59, v60, v61, v62, v63, rfl, ⟨?_, ?_, ?_, ?_, ?_, ?_, ?_, ?_, ?_, ?_, ?_, ?_, ?_, ?_, ?_, ?_, ?_, ?_⟩⟩
                  · exact fun hl => H1.hb (by simpa using hl)
                  · exact fun hl => H1.e14 (by simpa using hl)
                  · exact fun hl => H1.h0 (by simpa using hl)
                  · exact fun hl => H1.h1 (by simpa using hl)
                  · exact fun hl hl5 => H1.h2 (by simpa using hl) (by simpa using hl5)
                  · exact fun hl => H1.h3 (by simpa using hl)
                  · exact fun hl hl5 => H1.h4 (by simpa using hl) (by simpa using hl5)
                  · exact fun hl hl5 => H1.h5 (by simpa using hl) (by simpa using hl5)
                  · exact fun hl => H1.h6 (by simpa using hl)
                  · exact fun _ => by first | rfl | rw [HI2.out] | (rw [← HI2.out])
                  · exact fun hl => H1.h8 (by simpa using hl)
                  · exact fun hl => H1.h9 (by simpa using hl)
                  · exact fun hl => H1.h10 (by simpa using hl)
                  · exact fun hl => H1.h11 (by simpa using hl)
                  · exact fun hl => H1.h12 (by simpa using hl)
                  · exact fun hl => H1.h13 (by simpa using hl)
                  · exact fun hl => by have := H1.o5 (by simpa using hl); simp [this]
                  · exact fun hl => by have := H1.o14 (by simpa using hl); simp [this]
                · -- operation 8
                  go_simp
                  refine Or.inl ?_
                  have H1 := H
                  refine hK _ _ ⟨v49, v50, v51, v52, v53, v54, v55, v56, _, v58, v59, v60, v61, v62, v63, rfl, ⟨?_, ?_, ?_, ?_, ?_, ?_, ?_, ?_, ?_, ?_, ?_, ?_, ?_, ?_, ?_, ?_, ?_, ?_⟩⟩
                  · exact fun hl => H1.hb (by simpa using hl)
                  · exact fun hl => H1.e14 (by simpa using hl)
                  · exact fun hl => H1.h0 (by simpa using hl)
                  · exact fun hl => H1.h1 (by simpa using hl)
                  · exact fun hl hl5 => H1.h2 (by simpa using hl) (by simpa using hl5)
                  · exact fun hl => H1.h3 (by simpa using hl)
                  · exact fun hl hl5 => H1.h4 (by simpa using hl) (by simpa using hl5)
                  · exact fun hl hl5 => H1.h5 (by simpa using hl) (by simpa using hl5)
                  · exact fun hl => H1.h6 (by simpa using hl)
                  · exact fun hl => H1.h7 (by simpa using hl)
                  · exact fun _ => by first | rfl | rw [HI2.out] | (rw [← HI2.out])
                  · exact fun hl => H1.h9 (by simpa using hl)
                  · exact fun hl => H1.h10 (by simpa using hl)
                  · exact fun hl => H1.h11 (by simpa using hl)
                  · exact fun hl => H1.h12 (by simpa using hl)
                  · exact fun hl => H1.h13 (by simpa using hl)
                  · exact fun hl => by have := H1.o5 (by simpa using hl); simp [this]
                  · exact fun hl => by have := H1.o14 (by simpa using hl); simp [this]
                · -- operation 9
                  go_simp
                  refine Or.inl ?_
                  have H1 := H
                  refine hK _ _ ⟨v49, v50, v51, v52, v53, v54, v55, v56, v57, _, v59, v60, v61, v62, v63, rfl, ⟨?_, ?_, ?_, ?_, ?_, ?_, ?_, ?_, ?_, ?_, ?_, ?_, ?_, ?_, ?_, ?_, ?_, ?_⟩⟩
                  · exact fun hl => H1.hb (by simpa using hl)
                  · exact fun hl => H1.e14 (by simpa using hl)
                  · exact fun hl => H1.h0 (by simpa using hl)
                  · exact fun hl => H1.h1 (by simpa using hl)
                  · exact fun hl hl5 => H1.h2 (by simpa using hl) (by simpa using hl5)
                  · exact fun hl => H1.h3 (by simpa using hl)
                  · exact fun hl hl5 => H1.h4 (by simpa using hl) (by simpa using hl5)
                  · exact fun hl hl5 => H1.h5 (by simpa using hl) (by simpa using hl5)
                  · exact fun hl => H1.h6 (by simpa using hl)
                  · exact fun hl => H1.h7 (by simpa using hl)
                  · exact fun hl => H1.h8 (by simpa using hl)
                  · exact fun _ => by first | rfl | rw [HI2.out] | (rw [← HI2.out])
                  · exact fun hl => H1.h10 (by simpa using hl)
                  · exact fun hl => H1.h11 (by simpa using hl)
                  · exact fun hl => H1.h12 (by simpa using hl)
                  · exact fun hl => H1.h13 (by simpa using hl)
                  · exact fun hl => by have := H1.o5 (by simpa using hl); simp [this]
                  · exact fun hl => by have := H1.o14 (by simpa using hl); simp [this]
                · -- operation 10
                  go_simp
                  refine Or.inl ?_
                  have H1 := H
                  refine hK _ _ ⟨v49, v50, v51, v52, v53, v54, v55, v56, v57, v58, _, v60, v61, v62, v63, rfl, ⟨?_, ?_, ?_, ?_, ?_, ?_, ?_, ?_, ?_, ?_, ?_, ?_, ?_, ?_, ?_, ?_, ?_, ?_⟩⟩
                  · exact fun hl => H1.hb (by simpa using hl)
                  · exact fun hl => H1.e14 (by simpa using hl)
                  · exact fun hl => H1.h0 (by simpa using hl)
                  · exact fun hl => H1.h1 (by simpa using hl)
                  · exact fun hl hl5 => H1.h2 (by simpa using hl) (by simpa using hl5)
                  · exact fun hl => H1.h3 (by simpa using hl)
                  · exact fun hl hl5 => H1.h4 (by simpa using hl) (by simpa using hl5)
                  · exact fun hl hl5 => H1.h5 (by simpa using hl) (by simpa using hl5)
                  · exact fun hl => H1.h6 (by simpa using hl)
                  · exact fun hl => H1.h7 (by simpa using hl)
                  · exact fun hl => H1.h8 (by simpa using hl)
                  · exact fun hl => H1.h9 (by simpa using hl)
                  · exact fun _ => by first | rfl | rw [HI2.out] | (rw [← HI2.out])
                  · exact fun hl => H1.h11 (by simpa using hl)
                  · exact fun hl => H1.h12 (by simpa using hl)
                  · exact fun hl => H1.h13 (by simpa using hl)
                  · exact fun hl => by have := H1.o5 (by simpa using hl); simp [this]
                  · exact fun hl => by have := H1.o14 (by simpa using hl); simp [this]
                · -- operation 11
                  obtain rfl := H.h9 hp.1
                  obtain rfl := H.h10 hp.2
                  go_simp
                  refine Or.inl ?_
                  have H1 := H
                  refine hK _ _ ⟨v49, v50, v51, v52, v53, v54, v55, v56, v57, _, _, _, v61, v62, v63, rfl, ⟨?_, ?_, ?_, ?_, ?_, ?_, ?_, ?_, ?_, ?_, ?_, ?_, ?_, ?_, ?_, ?_, ?_, ?_⟩⟩
                  · exact fun hl => H1.hb (by simpa using hl)
                  · exact fun hl => H1.e14 (by simpa using hl)
                  · exact fun hl => H1.h0 (by simpa using hl)
                  · exact fun hl => H1.h1 (by simpa using hl)
                  · exact fun hl hl5 => H1.h2 (by simpa using hl) (by simpa using hl5)
                  · exact fun hl => H1.h3 (by simpa using hl)
                  · exact fun hl hl5 => H1.h4 (by simpa using hl) (by simpa using hl5)
                  · exact fun hl hl5 => H1.h5 (by simpa using hl) (by simpa using hl5)
                  · exact fun hl => H1.h6 (by simpa using hl)
                  · exact fun hl => H1.h7 (by simpa using hl)
                  · exact fun hl => H1.h8 (by simpa using hl)
                  · exact fun hl => H1.h9 (by simpa using hl)
                  · exact fun hl => H1.h10 (by simpa using hl)
                  · exact fun _ => by first | rfl | rw [HI2.out] | (rw [← HI2.out])
                  · exact fun hl => H1.h12 (by simpa using hl)
                  · exact fun hl => H1.h13 (by simpa using hl)
                  · exact fun hl => by have := H1.o5 (by simpa using hl); simp [this]
                  · exact fun hl => by have := H1.o14 (by simpa using hl); simp [this]
                · -- operation 12
                  obtain rfl := H.h11 hp
                  go_simp
                  refine Or.inl ?_
                  have H1 := H
                  refine hK _ _ ⟨v49, v50, v51, v52, v53, v54, v55, v56, v57, v58, v59, _, _, v62, v63, rfl, ⟨?_, ?_, ?_, ?_, ?_, ?_, ?_, ?_, ?_, ?_, ?_, ?_, ?_, ?_, ?_, ?_, ?_, ?_⟩⟩
                  · exact fun hl => H1.hb (by simpa using hl)
                  · exact fun hl => H1.e14 (by simpa using hl)
                  · exact fun hl => H1.h0 (by simpa using hl)
                  · exact fun hl => H1.h1 (by simpa using hl)
                  · exact fun hl hl5 => H1.h2 (by simpa using hl) (by simpa using hl5)
                  · exact fun hl => H1.h3 (by simpa using hl)
                  · exact fun hl hl5 => H1.h4 (by simpa using hl) (by simpa using hl5)
                  · exact fun hl hl5 => H1.h5 (by simpa using hl) (by simpa using hl5)
                  · exact fun hl => H1.h6 (by simpa using hl)
                  · exact fun hl => H1.h7 (by simpa using hl)
                  · exact fun hl => H1.h8 (by simpa using hl)
                  · exact fun hl => H1.h9 (by simpa using hl)
                  · exact fun hl => H1.h10 (by simpa using hl)
                  · exact fun hl => H1.h11 (by simpa using hl)
                  · exact fun _ => by first | rfl | rw [HI2.out] | (rw [← HI2.out])
                  · exact fun hl => H1.h13 (by simpa using hl)
                  · exact fun hl => by have := H1.o5 (by simpa using hl); simp [this]
                  · exact fun hl => by have := H1.o14 (by simpa using hl); simp [this]
                · -- operation 13
                  obtain rfl := H.h8 hp.1
                  obtain rfl := H.h12 hp.2
                  go_simp
                  refine Or.inl ?_
                  have H1 := H
                  refine hK _ _ ⟨v49, v50, v51, v52, v53, v54, v55, v56, _, v58, v59, v60, _, _, v63, rfl, ⟨?_, ?_, ?_, ?_, ?_, ?_, ?_, ?_, ?_, ?_, ?_, ?_, ?_, ?_, ?_, ?_, ?_, ?_⟩⟩
                  · exact fun hl => H1.hb (by simpa using hl)
                  · exact fun hl => H1.e14 (by simpa using hl)
                  · exact fun hl => H1.h0 (by simpa using hl)
                  · exact fun hl => H1.h1 (by simpa using hl)
                  · exact fun hl hl5 => H1.h2 (by simpa using hl) (by simpa using hl5)
                  · exact fun hl => H1.h3 (by simpa using hl)
                  · exact fun hl hl5 => H1.h4 (by simpa using hl) (by simpa using hl5)
                  · exact fun hl hl5 => H1.h5 (by simpa using hl) (by simpa using hl5)
                  · exact fun hl => H1.h6 (by simpa using hl)
                  · exact fun hl => H1.h7 (by simpa using hl)
                  · exact fun hl => H1.h8 (by simpa using hl)
                  · exact fun hl => H1.h9 (by simpa using hl)
                  · exact fun hl => H1.h10 (by simpa using hl)
                  · exact fun hl => H1.h11 (by simpa using hl)
                  · exact fun hl => H1.h12 (by simpa using hl)
                  · exact fun _ => by first | rfl | rw [HI2.out] | (rw [← HI2.out])
                  · exact fun hl => by have := H1.o5 (by simpa using hl); simp [this]
                  · exact fun hl => by have := H1.o14 (by simpa using hl); simp [this]
                · -- operation 14
                  obtain rfl := H.h0 hp.1
                  obtain rfl := H.h7 hp.2.2.1
                  obtain rfl := H.h13 hp.2.2.2.1
                  have hlv := H.h5 hp.2.1 hL
                  have hbc := H.hb hL
                  go_simp
                  refine Or.inl ?_
                  try rw [HI2.out]
                  refine (IH.out k1 hk1d (list ++ [i]) (long + x) bi v54 vi Wc (by omega) (by rw [List.length_append, List.length_singleton]; omega) (by omega) (by rw [List.length_append, List.length_singleton]; omega) hlv (fun e => by simp at e) (HFi.out.same (impl_FirstJoined.grown_of_below hbc none))).mono ?_
                  rintro e w' ⟨rfl, vb', hF', hg'⟩
                  have H1 := H
                  refine hK _ _ ⟨_, v50, v51, v52, v53, v54, v55, _, v57, v58, v59, v60, v61, _, _, rfl, ⟨?_, ?_, ?_, ?_, ?_, ?_, ?_, ?_, ?_, ?_, ?_, ?_, ?_, ?_, ?_, ?_, ?_, ?_⟩⟩
                  · exact fun hl => by simp at hl
                  · exact fun _ => ⟨vb', hF', (impl_FirstJoined.grown_of_below hbc (some Bb)).trans hg'⟩
                  · exact fun hl => H1.h0 (by simpa using hl)
                  · exact fun hl => H1.h1 (by simpa using hl)
                  · exact fun _ hl5 => by simp [hp] at hl5
                  · exact fun hl => H1.h3 (by simpa using hl)
                  · exact fun _ hl5 => by simp [hp] at hl5
                  · exact fun _ hl5 => by simp at hl5
                  · exact fun hl => H1.h6 (by simpa using hl)
                  · exact fun hl => by first | rfl | rw [HI2.out] | (rw [← HI2.out])
                  · exact fun hl => H1.h8 (by simpa using hl)
                  · exact fun hl => H1.h9 (by simpa using hl)
                  · exact fun hl => H1.h10 (by simpa using hl)
                  · exact fun hl => H1.h11 (by simpa using hl)
                  · exact fun hl => H1.h12 (by simpa using hl)
                  · exact fun hl => H1.h13 (by simpa using hl)
                  · exact fun hl => by have := H1.o5 (by simpa using hl); simp [this]
                  · exact fun _ => by simp [hp]
    · have d1 : decide (long - z ≥ gap + 2 * rest) = false := decide_eq_false cnd
      have hu : impl_FirstJoined.upd gap lap rest list long best = best := by unfold impl_FirstJoined.upd; rw [if_neg (fun h => cnd (by have := h.2; rw [hz] at this; exact this))]
      rw [hu]
      go_enter Try.func28, Try.ntmps28
      go_wp2
      have HF2 := HF
      have HG2 := Aside0.mk (World.grownBy.refl W (some Bb))
      go_loopg [12] d (fun kq v12 w' => ∃ (bi : Option (List Int)) (vi : Value), v12 = .int .i64 ((pl.length : Int) - (kq : Int)) ∧ Aside0 (kq ≤ d) ∧ Aside0 (impl_FirstJoined.lo gap lap rest pl kq list long bi = impl_FirstJoined.lo gap lap rest pl d list long best) ∧ Aside0 (impl_FirstJoined.Fx w0 Bl Bg Br Bb Bp Bc gap lap rest (.slice (some ad) pl.length c1) w' bi vi) ∧ Aside0 (W.grownBy w' (some Bb)))
      case atStart => exact ⟨_, _, rfl, ⟨Nat.le_refl _⟩, ⟨rfl⟩, HF2, HG2⟩
      case round =>
        obtain ⟨bi, vi, rfl, HK, HE, HFi, HG⟩ := hrel
        have p1 := HFi.out.cl.cell
        have p4 := HFi.out.cb.cell
        have p5 := HFi.out.cp.cell
        have p6 := HFi.out.cc.cell
        have p7 := HFi.out.b0
        cases gk with
        | zero =>
          have hd1 : decide ((pl.length : Int) - ((0 : Nat) : Int) < (pl.length : Int)) = false := decide_eq_false (by omega)
          go_wp2
          go_end0
          exact ⟨rfl, vi, by have := HE.out; simp only [impl_FirstJoined.lo] at this; rw [← this]; exact HFi.out, HG.out⟩
        | succ k1 =>
          have hd1 : decide ((pl.length : Int) - ((k1 + 1 : Nat) : Int) < (pl.length : Int)) = true := decide_eq_true (by omega)
          go_wp2
          obtain ⟨i, hi⟩ : ∃ i : Int, (pl.length : Int) - ((k1 + 1 : Nat) : Int) = i := ⟨_, rfl⟩
          have hk1d : k1 < d := by have := HK.out; omega
          have HI2 := Aside0.mk (show i + 1 = (pl.length : Int) - (k1 : Int) by omega)
          have hi0 : 0 ≤ i := by omega
          have hi1 : i < (pl.length : Int) := by omega
          obtain ⟨x, hx⟩ : ∃ x : Int, rd pl i = x := ⟨_, rfl⟩
          have hxr := HR.out i.toNat (by omega)
          have hxb := HB.out.2.2.2.2 i.toNat (by omega)
          have hpl := HB.out.2.2.2.1.2
          rw [show ((i.toNat : Nat) : Int) = i by omega, hx] at hxr hxb
          have wi1 : wrap64 (i + 1) = i + 1 := by unfold wrap64; omega
          have wi1' : IntKind.i64.wrap (i + 1) = i + 1 := (i64_w _).trans wi1
          have wx1 : wrap64 (long + x) = long + x := by unfold wrap64; omega
          have wx1' : IntKind.i64.wrap (long + x) = long + x := (i64_w _).trans wx1
          have HLEN := Aside0.mk (show list.length ≤ 100 by omega)
          have HVr := Aside0.mk (HV.out.kept HF.out.cb HG.out)
          have HSZ := Aside0.mk (below_size HFi.out.b0)
          have HE2 := HE.out
          simp only [impl_FirstJoined.lo] at HE2
          rw [hi, hx] at HE2
          have HE3 := Aside0.mk HE2
          clear HE2
          rw [hi]
          have hdec : decide ((pl.length : Int) - ((k1 : Int) + 1) < (pl.length : Int)) = true := decide_eq_true (by omega)
          rw [hdec]
          refine region_inv (J := fun L a Wc => ∃ v49 v50 v51 v52 v53 v54 v55 v56 v57 v58 v59 v60 v61 v62 v63 : Value, a = { tmps := #[Value.slice (some ⟨g, 0, none⟩) list.length c, Value.int IntKind.i64 ((pl.length : Int) - (d : Int)), Value.int IntKind.i64 long, Value.pointer (some ⟨Bl, 0, none⟩), Value.pointer (some ⟨Bg, 0, none⟩), Value.pointer (some ⟨Br, 0, none⟩), Value.pointer (some ⟨Bb, 0, none⟩), Value.pointer (some ⟨Bp, 0, none⟩), Value.pointer (some ⟨Bc, 0, none⟩), undef, undef, undef, Value.int IntKind.i64 i, Value.slice (some ⟨g, 0, none⟩) list.length c, Value.int IntKind.i64 (list.length : Int), Value.bool true, Value.bool true, Value.int IntKind.i64 long, Value.int IntKind.i64 lap, Value.slice (some ⟨g, 0, none⟩) list.length c, Value.int IntKind.i64 (list.length : Int), Value.int IntKind.i64 ((list.length : Int) - 1), Value.int IntKind.i64 z, Value.int IntKind.i64 (long - z), Value.int IntKind.i64 gap, Value.int IntKind.i64 rest, Value.int IntKind.i64 (2 * rest), Value.int IntKind.i64 (gap + 2 * rest), Value.bool false, Value.bool false, Value.bool false, undef, undef, undef, undef, undef, undef, undef, undef, undef, Value.bool false, undef, Value.int IntKind.i64 ((pl.length : Int) - (d : Int)), Value.int IntKind.i64 i, Value.slice (some ad) pl.length c1, Value.int IntKind.i64 (pl.length : Int), Value.bool true, u47, u48, v49, v50, v51, v52, v53, v54, v55, v56, v57, v58, v59, v60, v61, v62, v63], defers := [] } ∧ impl_FirstJoined.RS w0 wr Bl Bg Br Bb Bp Bc gap lap rest (.slice (some ad) pl.length c1) (.func (.func 28) #[] #[.pointer (some ⟨Bl, 0, none⟩), .pointer (some ⟨Bg, 0, none⟩), .pointer (some ⟨Br, 0, none⟩), .pointer (some ⟨Bb, 0, none⟩), .pointer (some ⟨Bp, 0, none⟩), .pointer (some ⟨Bc, 0, none⟩)]) (.slice (some ⟨g, 0, none⟩) list.length c) ad list i long x (impl_FirstJoined.lo gap lap rest pl k1 (list ++ [i]) (long + x) (impl_FirstJoined.upd gap lap rest (list ++ [i]) (long + x) bi)) L v49 v50 v51 v52 v53 v54 v55 v56 v57 v58 v59 v60 v61 v62 v63 Wc) (by kernel_rfl) (by kernel_rfl) ?start ?step ?fin
          case start => exact ⟨_, _, _, _, _, _, _, _, _, _, _, _, _, _, _, rfl, ⟨fun _ => below_drew1 (Below.refl _ _), nofun, nofun, nofun, nofun, nofun, nofun, nofun, nofun, nofun, nofun, nofun, nofun, nofun, nofun, nofun, nofun, nofun⟩⟩
          case fin =>
            rintro L a Wc hall ⟨v49, v50, v51, v52, v53, v54, v55, v56, v57, v58, v59, v60, v61, v62, v63, rfl, H⟩
            obtain ⟨vb', hF', hg'⟩ := H.e14 (hall 14 (by decide))
            have HF4 := Aside0.mk hF'
            have HG4 := Aside0.mk (HG.out.trans hg')
            obtain rfl := H.h3 (hall 3 (by decide))
            clear H hall hF' hg'
            go_wp2
            go_roundg k1
            case measure => omega
            case rel => exact ⟨_, vb', by first | rfl | rw [HI2.out] | (rw [← HI2.out]), ⟨by omega⟩, ⟨HE3.out⟩, HF4, HG4⟩
          case step =>
            rintro L a Wc j o ho hL hp ⟨v49, v50, v51, v52, v53, v54, v55, v56, v57, v58, v59, v60, v61, v62, v63, rfl, H⟩
            have hj : j < 15 := (Array.getElem?_eq_some_iff.1 ho).1
            have hcell : Wc.cell? ⟨Bc, 0, none⟩ = some (.func (.func 28) #[] #[.pointer (some ⟨Bl, 0, none⟩), .pointer (some ⟨Bg, 0, none⟩), .pointer (some ⟨Br, 0, none⟩), .pointer (some ⟨Bb, 0, none⟩), .pointer (some ⟨Bp, 0, none⟩), .pointer (some ⟨Bc, 0, none⟩)]) ∧ Wc.cell? ⟨Bp, 0, none⟩ = some (.slice (some ad) pl.length c1) ∧ Wc.cell? (ad.add i.toNat) = some (.int .i64 x) := by
              cases e : L 14 with
              | false =>
                have hF2 := HFi.out.same (impl_FirstJoined.grown_of_below (H.hb e) none)
                exact ⟨hF2.cc.cell, hF2.cp.cell, (hF2.b0.cell (World.block_lt_of_cell? w0 _ hxr)).trans hxr⟩
              | true =>
                obtain ⟨_, hF2, _⟩ := H.e14 e
                exact ⟨hF2.cc.cell, hF2.cp.cell, (hF2.b0.cell (World.block_lt_of_cell? w0 _ hxr)).trans hxr⟩
            obtain ⟨hc1, hc2, hc3⟩ := hcell
            rcases (show j = 0 ∨ j = 1 ∨ j = 2 ∨ j = 3 ∨ j = 4 ∨ j = 5 ∨ j = 6 ∨ j = 7 ∨ j = 8 ∨ j = 9 ∨ j = 10 ∨ j = 11 ∨ j = 12 ∨ j = 13 ∨ j = 14 by omega) with rfl | rfl | rfl | rfl | rfl | rfl | rfl | rfl | rfl | rfl | rfl | rfl | rfl | rfl | rfl
            all_goals (obtain rfl : _ = o := Option.some.inj (show some _ = some o from ho); simp [Region.binds] at hp; refine impl_FirstJoined.wpOp_of rfl (fun K hK => ?_))
            · -- operation 0
              go_simp
              refine Or.inl ?_
              have H1 := H
              refine hK _ _ ⟨_, v50, v51, v52, v53, v54, v55, v56, v57, v58, v59, v60, v61, v62, v63, rfl, ⟨?_, ?_, ?_, ?_, ?_, ?_, ?_, ?_, ?_, ?_, ?_, ?_, ?_, ?_, ?_, ?_, ?_, ?_⟩⟩
              · exact fun hl => H1.hb (by simpa using hl)
              · exact fun hl => H1.e14 (by simpa using hl)
              · exact fun _ => by first | rfl | rw [HI2.out] | (rw [← HI2.out])
              · exact fun hl => H1.h1 (by simpa using hl)
              · exact fun hl hl5 => H1.h2 (by simpa using hl) (by simpa using hl5)
              · exact fun hl => H1.h3 (by simpa using hl)
              · exact fun hl hl5 => H1.h4 (by simpa using hl) (by simpa using hl5)
              · exact fun hl hl5 => H1.h5 (by simpa using hl) (by simpa using hl5)
              · exact fun hl => H1.h6 (by simpa using hl)
              · exact fun hl => H1.h7 (by simpa using hl)
              · exact fun hl => H1.h8 (by simpa using hl)
              · exact fun hl => H1.h9 (by simpa using hl)
              · exact fun hl => H1.h10 (by simpa using hl)
              · exact fun hl => H1.h11 (by simpa using hl)
              · exact fun hl => H1.h12 (by simpa using hl)
              · exact fun hl => H1.h13 (by simpa using hl)
              · exact fun hl => by have := H1.o5 (by simpa using hl); simp [this]
              · exact fun hl => by have := H1.o14 (by simpa using hl); simp [this]
            · -- operation 1
              go_simp
              refine Or.inl ?_
              have H1 := H
              refine hK _ _ ⟨v49, _, v51, v52, v53, v54, v55, v56, v57, v58, v59, v60, v61, v62, v63, rfl, ⟨?_, ?_, ?_, ?_, ?_, ?_, ?_, ?_, ?_, ?_, ?_, ?_, ?_, ?_, ?_, ?_, ?_, ?_⟩⟩
              · exact fun hl => H1.hb (by simpa using hl)
              · exact fun hl => H1.e14 (by simpa using hl)
              · exact fun hl => H1.h0 (by simpa using hl)
              · exact fun _ => by first | rfl | rw [HI2.out] | (rw [← HI2.out])
              · exact fun hl hl5 => H1.h2 (by simpa using hl) (by simpa using hl5)
              · exact fun hl => H1.h3 (by simpa using hl)
              · exact fun hl hl5 => H1.h4 (by simpa using hl) (by simpa using hl5)
              · exact fun hl hl5 => H1.h5 (by simpa using hl) (by simpa using hl5)
              · exact fun hl => H1.h6 (by simpa using hl)
              · exact fun hl => H1.h7 (by simpa using hl)
              · exact fun hl => H1.h8 (by simpa using hl)
              · exact fun hl => H1.h9 (by simpa using hl)
              · exact fun hl => H1.h10 (by simpa using hl)
              · exact fun hl => H1.h11 (by simpa using hl)
              · exact fun hl => H1.h12 (by simpa using hl)
              · exact fun hl => H1.h13 (by simpa using hl)
              · exact fun hl => by have := H1.o5 (by simpa using hl); simp [this]
              · exact fun hl => by have := H1.o14 (by simpa using hl); simp [this]
            · -- operation 2
              obtain rfl := H.h1 hp
              have h14 : L 14 = false := by cases e : L 14 with | false => rfl | true => exact absurd (H.o5 (H.o14 e)).1 (by simp [hL])
              have hbc := H.hb h14
              go_simp
              refine Or.inl ?_
              refine (impl_FirstJoined.clone w0.heap.size Wc _ list (HVr.out.below hbc) (Nat.le_trans HSZ.out hbc.size) HLEN.out).mono ?_
              rintro e w' ⟨v', rfl, hlv, hbw, hfr⟩
              have H1 := H.world h14 hbw
              refine hK _ _ ⟨v49, _, _, v52, v53, v54, v55, v56, v57, v58, v59, v60, v61, v62, v63, rfl, ⟨?_, ?_, ?_, ?_, ?_, ?_, ?_, ?_, ?_, ?_, ?_, ?_, ?_, ?_, ?_, ?_, ?_, ?_⟩⟩
              · exact fun hl => H1.hb (by simpa using hl)
              · exact fun hl => H1.e14 (by simpa using hl)
              · exact fun hl => H1.h0 (by simpa using hl)
              · exact fun hl => H1.h1 (by simpa using hl)
              · exact fun _ _ => ⟨hlv, fun k hk => Nat.le_trans hbc.size (hfr k hk)⟩
              · exact fun hl => H1.h3 (by simpa using hl)
              · exact fun hl hl5 => H1.h4 (by simpa using hl) (by simpa using hl5)
              · exact fun hl hl5 => H1.h5 (by simpa using hl) (by simpa using hl5)
              · exact fun hl => H1.h6 (by simpa using hl)
              · exact fun hl => H1.h7 (by simpa using hl)
              · exact fun hl => H1.h8 (by simpa using hl)
              · exact fun hl => H1.h9 (by simpa using hl)
              · exact fun hl => H1.h10 (by simpa using hl)
              · exact fun hl => H1.h11 (by simpa using hl)
              · exact fun hl => H1.h12 (by simpa using hl)
              · exact fun hl => H1.h13 (by simpa using hl)
              · exact fun hl => by have := H1.o5 (by simpa using hl); simp [this]
              · exact fun hl => by have := H1.o14 (by simpa using hl); simp [this]
            · -- operation 3
              go_simp
              refine Or.inl ?_
              have H1 := H
              refine hK _ _ ⟨v49, v50, v51, _, v53, v54, v55, v56, v57, v58, v59, v60, v61, v62, v63, rfl, ⟨?_, ?_, ?_, ?_, ?_, ?_, ?_, ?_, ?_, ?_, ?_, ?_, ?_, ?_, ?_, ?_, ?_, ?_⟩⟩
              · exact fun hl => H1.hb (by simpa using hl)
              · exact fun hl => H1.e14 (by simpa using hl)
              · exact fun hl => H1.h0 (by simpa using hl)
              · exact fun hl => H1.h1 (by simpa using hl)
              · exact fun hl hl5 => H1.h2 (by simpa using hl) (by simpa using hl5)
              · exact fun _ => by first | rfl | rw [HI2.out] | (rw [← HI2.out])
              · exact fun hl hl5 => H1.h4 (by simpa using hl) (by simpa using hl5)
              · exact fun hl hl5 => H1.h5 (by simpa using hl) (by simpa using hl5)
              · exact fun hl => H1.h6 (by simpa using hl)
              · exact fun hl => H1.h7 (by simpa using hl)
              · exact fun hl => H1.h8 (by simpa using hl)
              · exact fun hl => H1.h9 (by simpa using hl)
              · exact fun hl => H1.h10 (by simpa using hl)
              · exact fun hl => H1.h11 (by simpa using hl)
              · exact fun hl => H1.h12 (by simpa using hl)
              · exact fun hl => H1.h13 (by simpa using hl)
              · exact fun hl => by have := H1.o5 (by simpa using hl); simp [this]
              · exact fun hl => by have := H1.o14 (by simpa using hl); simp [this]
            · -- operation 4
              obtain rfl := H.h3 hp
              have h14 : L 14 = false := by cases e : L 14 with | false => rfl | true => exact absurd (H.o5 (H.o14 e)).2 (by simp [hL])
              go_simp
              refine Or.inl ?_
              have H1 := H.world h14 (below_alloc (Below.refl _ _) (Obj.cells #[.int .i64 i] 3))
              refine hK _ _ ⟨v49, v50, v51, _, _, v54, v55, v56, v57, v58, v59, v60, v61, v62, v63, rfl, ⟨?_, ?_, ?_, ?_, ?_, ?_, ?_, ?_, ?_, ?_, ?_, ?_, ?_, ?_, ?_, ?_, ?_, ?_⟩⟩
              · exact fun hl => H1.hb (by simpa using hl)
              · exact fun hl => H1.e14 (by simpa using hl)
              · exact fun hl => H1.h0 (by simpa using hl)
              · exact fun hl => H1.h1 (by simpa using hl)
              · exact fun hl hl5 => H1.h2 (by simpa using hl) (by simpa using hl5)
              · exact fun hl => H1.h3 (by simpa using hl)
              · exact fun _ _ => ⟨Wc.heap.size, rfl, Boxed.new Wc _ _⟩
              · exact fun hl hl5 => H1.h5 (by simpa using hl) (by simpa using hl5)
              · exact fun hl => H1.h6 (by simpa using hl)
              · exact fun hl => H1.h7 (by simpa using hl)
              · exact fun hl => H1.h8 (by simpa using hl)
              · exact fun hl => H1.h9 (by simpa using hl)
              · exact fun hl => H1.h10 (by simpa using hl)
              · exact fun hl => H1.h11 (by simpa using hl)
              · exact fun hl => H1.h12 (by simpa using hl)
              · exact fun hl => H1.h13 (by simpa using hl)
              · exact fun hl => by have := H1.o5 (by simpa using hl); simp [this]
              · exact fun hl => by have := H1.o14 (by simpa using hl); simp [this]
            · -- operation 5
              have h14 : L 14 = false := by cases e : L 14 with | false => rfl | true => exact absurd (H.o14 e) (by simp [hL])
              obtain ⟨hlv, hfr⟩ := H.h2 hp.1 hL
              obtain ⟨gb5, rfl, hg5⟩ := H.h4 hp.2.1 hL
              obtain ⟨i0, hi0, hi1⟩ := Option.map_eq_some_iff.1 info3
              simp only [Prod.mk.injEq] at hi1
              rw [if_pos (by rfl)]
              refine Or.inl (wp_append_own Wc (.tmp 51) (.tmp 53) 22 rfl w0.heap.size 3 i0 (.int .i64 0) 1 8 Try.underlying22 hi0 hi1.1 hi1.2.1 hi1.2.2 rfl (by decide) v51 list.length (list.map (Value.int .i64)) rfl hlv ⟨gb5, 0, none⟩ 1 1 [.int .i64 i] rfl rfl (fun j u hj => ?_) (fun u hu => ?_) (by have := HLEN.out; unfold maxLen; omega) (by have := HLEN.out; omega) (Nat.le_trans HSZ.out (H.hb h14).size) (fun v' w' hown hgr _ => ?_))
              · match j, hj with
                | 0, hj => (obtain rfl := Option.some.inj (show some _ = some u from hj); exact (Boxed.cell (t := 3) hg5))
              · simp only [List.mem_singleton] at hu; subst hu; rfl
              have H1 := H
              have hbg := (H.hb h14).grown hgr (H.hb h14).size (fun k hk => hfr k hk)
              refine hK _ _ ⟨v49, v50, v51, v52, _, _, v55, v56, v57, v58, v59, v60, v61, v62, v63, rfl, ⟨?_, ?_, ?_, ?_, ?_, ?_, ?_, ?_, ?_, ?_, ?_, ?_, ?_, ?_, ?_, ?_, ?_, ?_⟩⟩
              · exact fun _ => hbg
              · exact fun hl => by simp [h14] at hl
              · exact fun hl => H1.h0 (by simpa using hl)
              · exact fun hl => H1.h1 (by simpa using hl)
              · exact fun hl hl5 => by simp at hl5
              · exact fun hl => H1.h3 (by simpa using hl)
              · exact fun hl hl5 => by simp at hl5
              · exact fun _ _ => by have := hown; unfold impl_FirstJoined.LV; rw [List.length_append, List.map_append]; exact this
              · exact fun hl => H1.h6 (by simpa using hl)
              · exact fun hl => H1.h7 (by simpa using hl)
              · exact fun hl => H1.h8 (by simpa using hl)
              · exact fun hl => H1.h9 (by simpa using hl)
              · exact fun hl => H1.h10 (by simpa using hl)
              · exact fun hl => H1.h11 (by simpa using hl)
              · exact fun hl => H1.h12 (by simpa using hl)
              · exact fun hl => H1.h13 (by simpa using hl)
              · exact fun _ => by simp [hp]
              · exact fun hl => by simp
            · -- operation 6
              go_simp
              refine Or.inl ?_
              have H1 := H
              refine hK _ _ ⟨v49, v50, v51, v52, v53, v54, _, v56, v57, v58, v59, v60, v61, v62, v63, rfl, ⟨?_, ?_, ?_, ?_, ?_, ?_, ?_, ?_, ?_, ?_, ?_, ?_, ?_, ?_, ?_, ?_, ?_, ?_⟩⟩
              · exact fun hl => H1.hb (by simpa using hl)
              · exact fun hl => H1.e14 (by simpa using hl)
              · exact fun hl => H1.h0 (by simpa using hl)
              · exact fun hl => H1.h1 (by simpa using hl)
              · exact fun hl hl5 => H1.h2 (by simpa using hl) (by simpa using hl5)
              · exact fun hl => H1.h3 (by simpa using hl)
              · exact fun hl hl5 => H1.h4 (by simpa using hl) (by simpa using hl5)
              · exact fun hl hl5 => H1.h5 (by simpa using hl) (by simpa using hl5)
              · exact fun _ => by first | rfl | rw [HI2.out] | (rw [← HI2.out])
              · exact fun hl => H1.h7 (by simpa using hl)
              · exact fun hl => H1.h8 (by simpa using hl)
              · exact fun hl => H1.h9 (by simpa using hl)
              · exact fun hl => H1.h10 (by simpa using hl)
              · exact fun hl => H1.h11 (by simpa using hl)
              · exact fun hl => H1.h12 (by simpa using hl)
              · exact fun hl => H1.h13 (by simpa using hl)
              · exact fun hl => by have := H1.o5 (by simpa using hl); simp [this]
              · exact fun hl => by have := H1.o14 (by simpa using hl); simp [this]
            · -- operation 7
              obtain rfl := H.h6 hp
              go_simp
              refine Or.inl ?_
              have H1 := H
              refine hK _ _ ⟨v49, v50, v51, v52, v53, v54, _, _, v57, v58, v59, v60, v61, v62, v63, rfl, ⟨?_, ?_, ?_, ?_, ?_, ?_, ?_, ?_, ?_, ?_, ?_, ?_, ?_, ?_, ?_, ?_, ?_, ?_⟩⟩
              · exact fun hl => H1.hb (by simpa using hl)
              · exact fun hl => H1.e14 (by simpa using hl)
              · exact fun hl => H1.h0 (by simpa using hl)
              · exact fun hl => H1.h1 (by simpa using hl)
              · exact fun hl hl5 => H1.h2 (by simpa using hl) (by simpa using hl5)
              · exact fun hl => H1.h3 (by simpa using hl)
              · exact fun hl hl5 => H1.h4 (by simpa using hl) (by simpa using hl5)
              · exact fun hl hl5 => H1.h5 (by simpa using hl) (by simpa using hl5)
              · exact fun hl => H1.h6 (by simpa using hl)
              · exact fun _ => by first | rfl | rw [HI2.out] | (rw [← HI2.out])
              · exact fun hl => H1.h8 (by simpa using hl)
              · exact fun hl => H1.h9 (by simpa using hl)
              · exact fun hl => H1.h10 (by simpa using hl)
              · exact fun hl => H1.h11 (by simpa using hl)
              · exact fun hl => H1.h12 (by simpa using hl)
              · exact fun hl => H1.h13 (by simpa using hl)
              · exact fun hl => by have := H1.o5 (by simpa using hl); simp [this]
              · exact fun hl => by have := H1.o14 (by simpa using hl); simp [this]
            · -- operation 8
              go_simp
              refine Or.inl ?_
              have H1 := H
              refine hK _ _ ⟨v49, v50, v51, v52, v53, v54, v55, v56, _, v58, v59, v60, v61, v62, v63, rfl, ⟨?_, ?_, ?_, ?_, ?_, ?_, ?_, ?_, ?_, ?_, ?_, ?_, ?_, ?_, ?_, ?_, ?_, ?_⟩⟩
              · exact fun hl => H1.hb (by simpa using hl)
              · exact fun hl => H1.e14 (by simpa using hl)
              · exact fun hl => H1.h0 (by simpa using hl)
              · exact fun hl => H1.h1 (by simpa using hl)
              · exact fun hl hl5 => H1.h2 (by simpa using hl) (by simpa using hl5)
              · exact fun hl => H1.h3 (by simpa using hl)
              · exact fun hl hl5 => H1.h4 (by simpa using hl) (by simpa using hl5)
              · exact fun hl hl5 => H1.h5 (by simpa using hl) (by simpa using hl5)
              · exact fun hl => H1.h6 (by simpa using hl)
              · exact fun hl => H1.h7 (by simpa using hl)
              · exact fun _ => by first | rfl | rw [HI2.out] | (rw [← HI2.out])
              · exact fun hl => H1.h9 (by simpa using hl)
              · exact fun hl => H1.h10 (by simpa using hl)
              · exact fun hl => H1.h11 (by simpa using hl)
              · exact fun hl => H1.h12 (by simpa using hl)
              · exact fun hl => H1.h13 (by simpa using hl)
              · exact fun hl => by have := H1.o5 (by simpa using hl); simp [this]
              · exact fun hl => by have := H1.o14 (by simpa using hl); simp [this]
            · -- operation 9
              go_simp
              refine Or.inl ?_
              have H1 := H
              refine hK _ _ ⟨v49, v50, v51, v52, v53, v54, v55, v56, v57, _, v59, v60, v61, v62, v63, rfl, ⟨?_, ?_, ?_, ?_, ?_, ?_, ?_, ?_, ?_, ?_, ?_, ?_, ?_, ?_, ?_, ?_, ?_, ?_⟩⟩
              · exact fun hl => H1.hb (by simpa using hl)
              · exact fun hl => H1.e14 (by simpa using hl)
              · exact fun hl => H1.h0 (by simpa using hl)
              · exact fun hl => H1.h1 (by simpa using hl)
              · exact fun hl hl5 => H1.h2 (by simpa using hl) (by simpa using hl5)
              · exact fun hl => H1.h3 (by simpa using hl)
              · exact fun hl hl5 => H1.h4 (by simpa using hl) (by simpa using hl5)
              · exact fun hl hl5 => H1.h5 (by simpa using hl) (by simpa using hl5)
              · exact fun hl => H1.h6 (by simpa using hl)
              · exact fun hl => H1.h7 (by simpa using hl)
              · exact fun hl => H1.h8 (by simpa using hl)
              · exact fun _ => by first | rfl | rw [HI2.out] | (rw [← HI2.out])
              · exact fun hl => H1.h10 (by simpa using hl)
              · exact fun hl => H1.h11 (by simpa using hl)
              · exact fun hl => H1.h12 (by simpa using hl)
              · exact fun hl => H1.h13 (by simpa using hl)
              · exact fun hl => by have := H1.o5 (by simpa using hl); simp [this]
              · exact fun hl => by have := H1.o14 (by simpa using hl); simp [this]
            · -- operation 10
              go_simp
              refine Or.inl ?_
              have H1 := H
              refine hK _ _ ⟨v49, v50, v51, v52, v53, v54, v55, v56, v57, v58, _, v60, v61, v62, v63, rfl, ⟨?_, ?_, ?_, ?_, ?_, ?_, ?_, ?_, ?_, ?_, ?_, ?_, ?_, ?_, ?_, ?_, ?_, ?_⟩⟩
              · exact fun hl => H1.hb (by simpa using hl)
              · exact fun hl => H1.e14 (by simpa using hl)
              · exact fun hl => H1.h0 (by simpa using hl)
              · exact fun hl => H1.h1 (by simpa using hl)
              · exact fun hl hl5 => H1.h2 (by simpa using hl) (by simpa using hl5)
              · exact fun hl => H1.h3 (by simpa using hl)
              · exact fun hl hl5 => H1.h4 (by simpa using hl) (by simpa using hl5)
              · exact fun hl hl5 => H1.h5 (by simpa using hl) (by simpa using hl5)
              · exact fun hl => H1.h6 (by simpa using hl)
              · exact fun hl => H1.h7 (by simpa using hl)
              · exact fun hl => H1.h8 (by simpa using hl)
              · exact fun hl => H1.h9 (by simpa using hl)
              · exact fun _ => by first | rfl | rw [HI2.out] | (rw [← HI2.out])
              · exact fun hl => H1.h11 (by simpa using hl)
              · exact fun hl => H1.h12 (by simpa using hl)
              · exact fun hl => H1.h13 (by simpa using hl)
              · exact fun hl => by have := H1.o5 (by simpa using hl); simp [this]
              · exact fun hl => by have := H1.o14 (by simpa using hl); simp [this]
            · -- operation 11
              obtain rfl := H.h9 hp.1
              obtain rfl := H.h10 hp.2
              go_simp
              refine Or.inl ?_
              have H1 := H
              refine hK _ _ ⟨v49, v50, v51, v52, v53, v54, v55, v56, v57, _, _, _, v61, v62, v63, rfl, ⟨?_, ?_, ?_, ?_, ?_, ?_, ?_, ?_, ?_, ?_, ?_, ?_, ?_, ?_, ?_, ?_, ?_, ?_⟩⟩
              · exact fun hl => H1.hb (by simpa using hl)
              · exact fun hl => H1.e14 (by simpa using hl)
              · exact fun hl => H1.h0 (by simpa using hl)
              · exact fun hl => H1.h1 (by simpa using hl)
              · exact fun hl hl5 => H1.h2 (by simpa using hl) (by simpa using hl5)
              · exact fun hl => H1.h3 (by simpa using hl)
              · exact fun hl hl5 => H1.h4 (by simpa using hl) (by simpa using hl5)
              · exact fun hl hl5 => H1.h5 (by simpa using hl) (by simpa using hl5)
              · exact fun hl => H1.h6 (by simpa using hl)
              · exact fun hl => H1.h7 (by simpa using hl)
              · exact fun hl => H1.h8 (by simpa using hl)
              · exact fun hl => H1.h9 (by simpa using hl)
              · exact fun hl => H1.h10 (by simpa using hl)
              · exact fun _ => by first | rfl | rw [HI2.out] | (rw [← HI2.out])
              · exact fun hl => H1.h12 (by simpa using hl)
              · exact fun hl => H1.h13 (by simpa using hl)
              · exact fun hl => by have := H1.o5 (by simpa using hl); simp [this]
              · exact fun hl => by have := H1.o14 (by simpa using hl); simp [this]
            · -- operation 12
              obtain rfl := H.h11 hp
              go_simp
              refine Or.inl ?_
              have H1 := H
              refine hK _ _ ⟨v49, v50, v51, v52, v53, v54, v55, v56, v57, v58, v59, _, _, v62, v63, rfl, ⟨?_, ?_, ?_, ?_, ?_, ?_, ?_, ?_, ?_, ?_, ?_, ?_, ?_, ?_, ?_, ?_, ?_, ?_⟩⟩
              · exact fun hl => H1.hb (by simpa using hl)
              · exact fun hl => H1.e14 (by simpa using hl)
              · exact fun hl => H1.h0 (by simpa using hl)
              · exact fun hl => H1.h1 (by simpa using hl)
              · exact fun hl hl5 => H1.h2 (by simpa using hl) (by simpa using hl5)
              · exact fun hl => H1.h3 (by simpa using hl)
              · exact fun hl hl5 => H1.h4 (by simpa using hl) (by simpa using hl5)
              · exact fun hl hl5 => H1.h5 (by simpa using hl) (by simpa using hl5)
              · exact fun hl => H1.h6 (by simpa using hl)
              · exact fun hl => H1.h7 (by simpa using hl)
              · exact fun hl => H1.h8 (by simpa using hl)
              · exact fun hl => H1.h9 (by simpa using hl)
              · exact fun hl => H1.h10 (by simpa using hl)
              · exact fun hl => H1.h11 (by simpa using hl)
              · exact fun _ => by first | rfl | rw [HI2.out] | (rw [← HI2.out])
              · exact fun hl => H1.h13 (by simpa using hl)
              · exact fun hl => by have := H1.o5 (by simpa using hl); simp [this]
              · exact fun hl => by have := H1.o14 (by simpa using hl); simp [this]
            · -- operation 13
              obtain rfl := H.h8 hp.1
              obtain rfl := H.h12 hp.2
              go_simp
              refine Or.inl ?_
              have H1 := H
              refine hK _ _ ⟨v49, v50, v51, v52, v53, v54, v55, v56, _, v58, v59, v60, _, _, v63, rfl, ⟨?_, ?_, ?_, ?_, ?_, ?_, ?_, ?_, ?_, ?_, ?_, ?_, ?_, ?_, ?_, ?_, ?_, ?_⟩⟩
              · exact fun hl => H1.hb (by simpa using hl)
              · exact fun hl => H1.e14 (by simpa using hl)
              · exact fun hl => H1.h0 (by simpa using hl)
              · exact fun hl => H1.h1 (by simpa using hl)
              · exact fun hl hl5 => H1.h2 (by simpa using hl) (by simpa using hl5)
              · exact fun hl => H1.h3 (by simpa using hl)
              · exact fun hl hl5 => H1.h4 (by simpa using hl) (by simpa using hl5)
              · exact fun hl hl5 => H1.h5 (by simpa using hl) (by simpa using hl5)
              · exact fun hl => H1.h6 (by simpa using hl)
              · exact fun hl => H1.h7 (by simpa using hl)
              · exact fun hl => H1.h8 (by simpa using hl)
              · exact fun hl => H1.h9 (by simpa using hl)
              · exact fun hl => H1.h10 (by simpa using hl)
              · exact fun hl => H1.h11 (by simpa using hl)
              · exact fun hl => H1.h12 (by simpa using hl)
              · exact fun _ => by first | rfl | rw [HI2.out] | (rw [← HI2.out])
              · exact fun hl => by have := H1.o5 (by simpa using hl); simp [this]
              · exact fun hl => by have := H1.o14 (by simpa using hl); simp [this]
            · -- operation 14
              obtain rfl := H.h0 hp.1
              obtain rfl := H.h7 hp.2.2.1
              obtain rfl := H.h13 hp.2.2.2.1
              have hlv := H.h5 hp.2.1 hL
              have hbc := H.hb hL
              go_simp
              refine Or.inl ?_
              try rw [HI2.out]
              refine (IH.out k1 hk1d (list ++ [i]) (long + x) bi v54 vi Wc (by omega) (by rw [List.length_append, List.length_singleton]; omega) (by omega) (by rw [List.length_append, List.length_singleton]; omega) hlv (fun e => by simp at e) (HFi.out.same (impl_FirstJoined.grown_of_below hbc none))).mono ?_
              rintro e w' ⟨rfl, vb', hF', hg'⟩
              have H1 := H
              refine hK _ _ ⟨_, v50, v51, v52, v53, v54, v55, _, v57, v58, v59, v60, v61, _, _, rfl, ⟨?_, ?_, ?_, ?_, ?_, ?_, ?_, ?_, ?_, ?_, ?_, ?_, ?_, ?_, ?_, ?_, ?_, ?_⟩⟩
              · exact fun hl => by simp at hl
              · exact fun _ => ⟨vb', hF', (impl_FirstJoined.grown_of_below hbc (some Bb)).trans hg'⟩
              · exact fun hl => H1.h0 (by simpa using hl)
              · exact fun hl => H1.h1 (by simpa using hl)
              · exact fun _ hl5 => by simp [hp] at hl5
              · exact fun hl => H1.h3 (by simpa using hl)
              · exact fun _ hl5 => by simp [hp] at hl5
              · exact fun _ hl5 => by simp at hl5
              · exact fun hl => H1.h6 (by simpa using hl)
              · exact fun hl => by first | rfl | rw [HI2.out] | (rw [← HI2.out])
              · exact fun hl => H1.h8 (by simpa using hl)
              · exact fun hl => H1.h9 (by simpa using hl)
              · exact fun hl => H1.h10 (by simpa using hl)
              · exact fun hl => H1.h11 (by simpa using hl)
              · exact fun hl => H1.h12 (by simpa using hl)
              · exact fun hl => H1.h13 (by simpa using hl)
              · exact fun hl => by have := H1.o5 (by simpa using hl); simp [this]
              · exact fun _ => by simp [hp]
instance (gap lap rest : Int) (pl : List Int) : Decidable (impl_FirstJoined.bnd gap lap rest pl) := by unfold impl_FirstJoined.bnd; exact inferInstance
def impl_FirstJoined.out (best : Option (List Int)) : List Int × Bool := match best with | none => ([], false) | some l => (l, true)
def impl_FirstJoined.f (k : Nat) (a0 : Int) (l1 : List Int) (a2 a3 : Int) : Option (List Int × Bool) := (impl_within.f a0 1 100).bind fun t => if t = true then (impl_areJoined.f k l1 a3).bind fun u => if u = true then (impl_isRest.f a2).bind fun v => if v = true then if impl_FirstJoined.bnd a0 a3 a2 l1 then some (impl_FirstJoined.out (impl_FirstJoined.lo a0 a3 a2 l1 l1.length [] 0 none)) else none else some ([], false) else some ([], false) else some ([], false)
theorem impl_FirstJoined.mono : ∀ a0 l1 a2 a3 k, LeO (impl_FirstJoined.f k a0 l1 a2 a3) (impl_FirstJoined.f (k + 1) a0 l1 a2 a3) := fun a0 l1 a2 a3 k =>
  LeO.bind (LeO.refl _) (fun _ => LeO.ite (LeO.bind (impl_areJoined.mono l1 a3 k) (fun _ => LeO.refl _)) (LeO.refl _))
/-- The four boxes of the arguments. -/
structure impl_FirstJoined.Bx (w W : World) (gap rest lap : Int) (v : Value) : Prop where
  b : Below w.heap.size w W
  n : w.heap.size + 4 ≤ W.heap.size
  g : Boxed W w.heap.size 3 (.int .i64 gap)
  p : Boxed W (w.heap.size + 1) 22 v
  r : Boxed W (w.heap.size + 2) 3 (.int .i64 rest)
  l : Boxed W (w.heap.size + 3) 3 (.int .i64 lap)
theorem impl_FirstJoined.Bx.kept {w W W' : World} {gap rest lap : Int} {v : Value} (h : impl_FirstJoined.Bx w W gap rest lap v) (hb : Below W.heap.size W W') : impl_FirstJoined.Bx w W' gap rest lap v :=
  ⟨below_step h.b hb, Nat.le_trans h.n hb.size, (hb.block _ h.g.lt).trans h.g, (hb.block _ h.p.lt).trans h.p, (hb.block _ h.r.lt).trans h.r, (hb.block _ h.l.lt).trans h.l⟩
theorem impl_FirstJoined.Bx.start (w : World) (gap rest lap : Int) (v : Value) : impl_FirstJoined.Bx w ((((w.alloc (.cells #[.int .i64 gap] 3)).alloc (.cells #[v] 22)).alloc (.cells #[.int .i64 rest] 3)).alloc (.cells #[.int .i64 lap] 3)) gap rest lap v := by
  have n1 : (w.alloc (.cells #[.int .i64 gap] 3)).heap.size = w.heap.size + 1 := by simp
  have n2 : ((w.alloc (.cells #[.int .i64 gap] 3)).alloc (.cells #[v] 22)).heap.size = w.heap.size + 2 := by simp
  have n3 : (((w.alloc (.cells #[.int .i64 gap] 3)).alloc (.cells #[v] 22)).alloc (.cells #[.int .i64 rest] 3)).heap.size = w.heap.size + 3 := by simp
  have h1 := Boxed.new w 3 (.int .i64 gap)
  have h2 := Boxed.new (w.alloc (.cells #[.int .i64 gap] 3)) 22 v
  have h3 := Boxed.new ((w.alloc (.cells #[.int .i64 gap] 3)).alloc (.cells #[v] 22)) 3 (.int .i64 rest)
  have h4 := Boxed.new (((w.alloc (.cells #[.int .i64 gap] 3)).alloc (.cells #[v] 22)).alloc (.cells #[.int .i64 rest] 3)) 3 (.int .i64 lap)
  rw [n1] at h2
  rw [n2] at h3
  rw [n3] at h4
  refine ⟨((((Below.refl _ _).alloc (Nat.le_refl _) _).alloc (by omega) _).alloc (by omega) _).alloc (by omega) _, by simp, ?_, ?_, ?_, h4⟩
  · exact (Below.heap_alloc _ _ _ (by omega)).trans ((Below.heap_alloc _ _ _ (by omega)).trans ((Below.heap_alloc _ _ _ (by omega)).trans h1))
  · exact (Below.heap_alloc _ _ _ (by omega)).trans ((Below.heap_alloc _ _ _ (by omega)).trans h2)
  · exact (Below.heap_alloc _ _ _ (by omega)).trans h3
theorem impl_FirstJoined.choose0 (gap lap rest : Int) (pl : List Int) (hbnd : impl_FirstJoined.bnd gap lap rest pl) (w0 : World) (ad : Addr) (c1 : Nat) (hrow : ∀ i : Nat, i < pl.length → w0.cell? (ad.add i) = some (.int .i64 (rd pl (i : Int)))) (Bl Bg Br Bb Bp Bc : Nat) (W : World) (hF : impl_FirstJoined.Fx w0 Bl Bg Br Bb Bp Bc gap lap rest (.slice (some ad) pl.length c1) W none (.slice none 0 0)) :
    Calls Try.prog 28 #[.slice none 0 0, .int .i64 0, .int .i64 0, .pointer (some ⟨Bl, 0, none⟩), .pointer (some ⟨Bg, 0, none⟩), .pointer (some ⟨Br, 0, none⟩), .pointer (some ⟨Bb, 0, none⟩), .pointer (some ⟨Bp, 0, none⟩), .pointer (some ⟨Bc, 0, none⟩)] W fun e W' => ∃ (A : Option Addr) (n c : Nat), e = .returned (.tuple #[]) ∧ Below w0.heap.size w0 W' ∧ W'.cell? ⟨Bb, 0, none⟩ = some (.slice A n c) ∧ A.isSome = (impl_FirstJoined.out (impl_FirstJoined.lo gap lap rest pl pl.length [] 0 none)).2 ∧ Kd.R (Kd.int .i64) 3 W' w0.heap.size (fun _ => True) (.slice A n c) (impl_FirstJoined.out (impl_FirstJoined.lo gap lap rest pl pl.length [] 0 none)).1 := by
  have h := impl_FirstJoined.choose gap lap rest pl hbnd w0 ad c1 hrow Bl Bg Br Bb Bp Bc pl.length [] 0 none (.slice none 0 0) (.slice none 0 0) W (Nat.le_refl _) (by have := hbnd.2.2.2.1; simp; omega) (by omega) (by simp) (impl_FirstJoined.LV.nil _ _) (fun _ => rfl) hF
  rw [Int.sub_self] at h
  refine h.mono ?_
  rintro e W' ⟨rfl, vb, hF', _⟩
  have hu : impl_FirstJoined.upd gap lap rest [] 0 none = none := by unfold impl_FirstJoined.upd; rw [if_neg (by simp)]
  rw [hu] at hF'
  obtain ⟨best, hb⟩ : ∃ b, impl_FirstJoined.lo gap lap rest pl pl.length [] 0 none = b := ⟨_, rfl⟩
  rw [hb] at hF' ⊢
  cases best with
  | none =>
    obtain rfl := hF'.hn rfl
    exact ⟨none, 0, 0, rfl, hF'.b0, hF'.cb.cell, rfl, Kd.R_nil _ _ _ _ _⟩
  | some l =>
    obtain ⟨hl, hv⟩ := hF'.hs l rfl
    rcases impl_FirstJoined.LV.form hv with ⟨e, _⟩ | ⟨g, c, cur, rfl, _⟩
    · exact absurd e hl
    · exact ⟨_, _, _, rfl, hF'.b0, hF'.cb.cell, rfl, Kd.R_of_own hv (fun _ _ => trivial)⟩
theorem impl_FirstJoined.fx0 {w w6 : World} {gap rest lap : Int} {v : Value} (h : impl_FirstJoined.Bx w w6 gap rest lap v) : impl_FirstJoined.Fx w (w.heap.size + 1 + 1 + 1) w.heap.size (w.heap.size + 1 + 1) w6.heap.size (w.heap.size + 1) (w6.heap.size + 1) gap lap rest v ((w6.alloc (.cells #[.slice none 0 0] 22)).alloc (.cells #[.func (.func 28) #[] #[.pointer (some ⟨w.heap.size + 1 + 1 + 1, 0, none⟩), .pointer (some ⟨w.heap.size, 0, none⟩), .pointer (some ⟨w.heap.size + 1 + 1, 0, none⟩), .pointer (some ⟨w6.heap.size, 0, none⟩), .pointer (some ⟨w.heap.size + 1, 0, none⟩), .pointer (some ⟨w6.heap.size + 1, 0, none⟩)]] 40)) none (.slice none 0 0) := by
  have hn := h.n
  have n1 : (w6.alloc (.cells #[.slice none 0 0] 22)).heap.size = w6.heap.size + 1 := by simp
  have hk : ∀ k, k < w6.heap.size → ∀ o, ((w6.alloc (.cells #[.slice none 0 0] 22)).alloc o).heap[k]? = w6.heap[k]? := fun k hk o => (Below.heap_alloc _ _ _ (by omega)).trans (Below.heap_alloc _ _ _ hk)
  have h2 := Boxed.new w6 22 (.slice none 0 0)
  have h3 := Boxed.new (w6.alloc (.cells #[.slice none 0 0] 22)) 40 (.func (.func 28) #[] #[.pointer (some ⟨w.heap.size + 1 + 1 + 1, 0, none⟩), .pointer (some ⟨w.heap.size, 0, none⟩), .pointer (some ⟨w.heap.size + 1 + 1, 0, none⟩), .pointer (some ⟨w6.heap.size, 0, none⟩), .pointer (some ⟨w.heap.size + 1, 0, none⟩), .pointer (some ⟨w6.heap.size + 1, 0, none⟩)])
  rw [n1] at h3
  exact ⟨(h.b.alloc (by omega) _).alloc (by omega) _, (hk _ (by omega) _).trans h.l, (hk _ (by omega) _).trans h.g, (hk _ (by omega) _).trans h.r, (Below.heap_alloc _ _ _ (by omega)).trans h2, (hk _ (by omega) _).trans h.p, h3, by omega, by omega, fun _ => rfl, fun l hl => by cases hl⟩
set_option maxHeartbeats 8000000 in
set_option maxRecDepth 100000 in
theorem impl_FirstJoined.calls (k : Nat) (a0 : Int) (A1 : Option Addr) (c1 : Nat) (l1 : List Int) (a2 : Int) (a3 : Int) (r1 : List Int) (r2 : Bool) (w : World) (hr1 : Kd.C (Kd.int .i64) w A1 l1.length l1) (hc1 : l1.length ≤ c1) (h : impl_FirstJoined.f k a0 l1 a2 a3 = some (r1, r2)) :
    Calls Try.prog 13 #[.int .i64 a0, .slice A1 l1.length c1, .int .i64 a2, .int .i64 a3] w fun e w' => ∃ v0_ : Value, e = .returned (.tuple #[v0_, .bool r2]) ∧ Kd.R (Kd.int .i64) 3 w' w.heap.size (fun _ => True) v0_ r1 ∧ Below w.heap.size w w' := by
  have HR1 := Aside0.mk hr1
  have HC1 := Aside0.mk hc1
  have HX := Aside0.mk (impl_FirstJoined.Bx.start w a0 a2 a3 (.slice A1 l1.length c1))
  clear hr1 hc1
  obtain ⟨t, ht, h⟩ := Option.bind_eq_some_iff.mp h
  have HT := Aside0.mk ht
  clear ht
  have q1 := HX.out.g.cell
  have q2 := HX.out.p.cell
  have q3 := HX.out.r.cell
  have q4 := HX.out.l.cell
  cases t with
  | false =>
    simp only [Bool.false_eq_true, if_false, Option.some.injEq, Prod.mk.injEq] at h
    obtain ⟨rfl, rfl⟩ := h
    go_enter Try.func13, Try.ntmps13
    go_wp2_with (go_at_call 25; (refine (impl_within.calls a0 1 100 false _ HT.out).mono ?_); rintro e w3 ⟨rfl, ⟨nd, rfl⟩⟩)
    go_ret2
    exact ⟨_, rfl, Kd.R_nil _ _ _ _ _, pw_below_drewN HX.out.b nd⟩
  | true =>
    simp only [if_true] at h
    obtain ⟨u, hu, h⟩ := Option.bind_eq_some_iff.mp h
    have HU := Aside0.mk hu
    clear hu
    cases u with
    | false =>
      simp only [Bool.false_eq_true, if_false, Option.some.injEq, Prod.mk.injEq] at h
      obtain ⟨rfl, rfl⟩ := h
      go_enter Try.func13, Try.ntmps13
      go_wp2_with (first | (go_at_call 25; (refine (impl_within.calls a0 1 100 true _ HT.out).mono ?_); rintro e w3 ⟨rfl, ⟨nd, rfl⟩⟩) | (go_at_call 26; (refine (impl_areJoined.calls k _ _ l1 a3 false _ ?side1 ?side2 HU.out).mono ?_); (case side1 => repeat (first | exact HR1.out | (with_reducible refine Kd.C_alloc ?_ _) | (with_reducible refine Kd.C_drewN ?_ _))); (case side2 => exact HC1.out); rintro e w5 ⟨rfl, hb⟩; have HB := Aside0.mk (below_step (pw_below_drewN HX.out.b nd) hb); clear hb))
      go_ret2
      exact ⟨_, rfl, Kd.R_nil _ _ _ _ _, HB.out⟩
    | true =>
      simp only [if_true] at h
      obtain ⟨v, hv, h⟩ := Option.bind_eq_some_iff.mp h
      have HV := Aside0.mk hv
      clear hv
      cases v with
      | false =>
        simp only [Bool.false_eq_true, if_false, Option.some.injEq, Prod.mk.injEq] at h
        obtain ⟨rfl, rfl⟩ := h
        go_enter Try.func13, Try.ntmps13
        go_wp2_with (first | (go_at_call 25; (refine (impl_within.calls a0 1 100 true _ HT.out).mono ?_); rintro e w3 ⟨rfl, ⟨nd, rfl⟩⟩) | (go_at_call 26; (refine (impl_areJoined.calls k _ _ l1 a3 true _ ?side1 ?side2 HU.out).mono ?_); (case side1 => repeat (first | exact HR1.out | (with_reducible refine Kd.C_alloc ?_ _) | (with_reducible refine Kd.C_drewN ?_ _))); (case side2 => exact HC1.out); rintro e w5 ⟨rfl, hb⟩; have HX5 := Aside0.mk ((HX.out.kept (pw_below_drewN (Below.refl _ _) nd)).kept hb); have p3 := HX5.out.r.cell; clear hb) | (go_at_call 27; (refine (impl_isRest.calls a2 false _ HV.out).mono ?_); rintro e w6 ⟨rfl, ⟨nd2, rfl⟩⟩))
        go_ret2
        exact ⟨_, rfl, Kd.R_nil _ _ _ _ _, pw_below_drewN HX5.out.b nd2⟩
      | true =>
        simp only [if_true] at h
        by_cases hbnd : impl_FirstJoined.bnd a0 a3 a2 l1
        case neg => rw [if_neg hbnd] at h; cases h
        rw [if_pos hbnd] at h
        obtain ⟨ad, rfl, hcell⟩ := (Kd.reads_of_C (d := (0 : Int)) HR1.out).2.2 hbnd.2.2.2.1.1
        have HRW := Aside0.mk (fun (i : Nat) (hi : i < l1.length) => (show w.cell? (ad.add i) = some (.int .i64 (rd l1 (i : Int))) from hcell i hi))
        clear hcell
        have HBN := Aside0.mk hbnd
        have HOUT := Aside0.mk (Option.some.inj h)
        clear hbnd h
        go_enter Try.func13, Try.ntmps13
        go_wp2_with (first | (go_at_call 25; (refine (impl_within.calls a0 1 100 true _ HT.out).mono ?_); rintro e w3 ⟨rfl, ⟨nd, rfl⟩⟩) | (go_at_call 26; (refine (impl_areJoined.calls k _ _ l1 a3 true _ ?side1 ?side2 HU.out).mono ?_); (case side1 => repeat (first | exact HR1.out | (with_reducible refine Kd.C_alloc ?_ _) | (with_reducible refine Kd.C_drewN ?_ _))); (case side2 => exact HC1.out); rintro e w5 ⟨rfl, hb⟩; have HX5 := Aside0.mk ((HX.out.kept (pw_below_drewN (Below.refl _ _) nd)).kept hb); have p3 := HX5.out.r.cell; clear hb) | (go_at_call 27; (refine (impl_isRest.calls a2 true _ HV.out).mono ?_); rintro e w6 ⟨rfl, hd⟩; have HX6 := Aside0.mk (HX5.out.kept (show Below w5.heap.size w5 w6 from by obtain ⟨nd2, rfl⟩ := hd; exact pw_below_drewN (Below.refl _ _) nd2)); clear hd; have hn := Boxed.new (w6.alloc (.cells #[.slice none 0 0] 22)) 40 .nilFunc; rw [show (w6.alloc (.cells #[.slice none 0 0] 22)).heap.size = w6.heap.size + 1 from by simp] at hn; have c7 := hn.cell; have c8 := hn.frozen; clear hn) | (go_at_call 28; (refine (impl_FirstJoined.choose0 a0 a3 a2 l1 HBN.out w ad c1 HRW.out _ _ _ _ _ _ _ (impl_FirstJoined.fx0 HX6.out)).mono ?_); rintro e w7 ⟨A7, n7, m7, rfl, hb7, c9, hnn, hR⟩; have HB7 := Aside0.mk hb7; have HNN := Aside0.mk hnn; have HR7 := Aside0.mk hR; clear hb7 hnn hR))
        have q23 : ∀ (w : World) (a : Option Addr) (n c : Nat), (binOp .neq 22 (.slice a n c) (.slice none 0 0)).run Try.prog w = .ok (.bool (!a.isNone)) w := fun w a n c => run_neq_slice_nil_any w _ _ a n c 0 0 Try.underlying22
        go_quiet (fail)
        go_wp2
        obtain rfl : A7.isSome = r2 := HNN.out.trans (by rw [HOUT.out])
        obtain rfl : (impl_FirstJoined.out (impl_FirstJoined.lo a0 a3 a2 l1 l1.length [] 0 none)).1 = r1 := by rw [HOUT.out]
        go_ret2
        exact ⟨_, rfl, Kd.R_drewN HR7.out nq, pw_below_drewN HB7.out nq⟩

end Go.Proofs.Ytjkhpdfphphnfaa.PFnExactFewestJoined
