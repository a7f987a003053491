-- Printed by this session's eprint.py over the kit's print (with this session's own texts for some functions)
import Derived.Test.YtjkhpdfphphnfaaPFnExactCountCoveringsx0
import Derived.Test.YtjkhpdfphphnfaaPFnExactCountCoveringsx1
import Derived.Test.YtjkhpdfphphnfaaPFnExactCountCoveringsx2
namespace Go.Proofs.Ytjkhpdfphphnfaa.PFnExactCountCoverings
open Go.RowKit Go.Proofs.YtjkhpdfphphnfaaW.PrintWords Go.Proofs.YtjkhpdfphphnfaaW.PrintLast Go.Proofs.YtjkhpdfphphnfaaW.PrintMore
attribute [local go_sem] max2_int min2_int max_two min_two max_three min_three max_four min_four   -- for this text's walks alone
set_option linter.unusedVariables false
set_option linter.unusedSimpArgs false

/-! ### impl_CountCoverings: function 11 -/
--USES helper_cov helper_region
theorem impl_CountCoverings.has0 (a : Int) (l : List Int) (hl : l.length ≤ 1000) : ∀ (q k j : Nat), l.length - j = q → q < k → j ≤ l.length → ∃ t, slices_Index_int_int.l0 k l a (l.length : Int) (j : Int) = some t ∧ decide (t ≥ 0) = decide (a ∈ l.drop j) := by
  intro q
  induction q with
  | zero =>
    intro k j h1 h2 h3
    obtain ⟨k, rfl⟩ : ∃ x, k = x + 1 := ⟨k - 1, by omega⟩
    simp only [slices_Index_int_int.l0]
    rw [if_neg (by omega), List.drop_eq_nil_of_le (by omega)]
    exact ⟨_, rfl, by simp⟩
  | succ q ih =>
    intro k j h1 h2 h3
    obtain ⟨k, rfl⟩ : ∃ x, k = x + 1 := ⟨k - 1, by omega⟩
    have hj : j < l.length := by omega
    have hrd : rd l (j : Int) = l[j] := by simp [rd, List.getD_eq_getElem?_getD, List.getElem?_eq_getElem hj]
    simp only [slices_Index_int_int.l0]
    rw [if_pos (by omega), if_pos (by omega), if_pos (by omega), hrd]
    rw [List.drop_eq_getElem_cons hj]
    by_cases c : a = l[j]
    · rw [if_pos c]; exact ⟨_, rfl, by rw [decide_eq_decide, List.mem_cons]; exact ⟨fun _ => .inl c, fun _ => by omega⟩⟩
    · rw [if_neg c, show wrap64 ((j : Int) + 1) = ((j + 1 : Nat) : Int) by unfold wrap64; omega]
      obtain ⟨t, h, e⟩ := ih k (j + 1) (by omega) (by omega) (by omega)
      refine ⟨t, h, e.trans ?_⟩
      rw [decide_eq_decide, List.mem_cons]
      exact ⟨fun h => .inr h, fun h => h.resolve_left c⟩
theorem impl_CountCoverings.has (a : Int) (l : List Int) (hl : l.length ≤ 100) : slices_Contains_int_int.f 1000 l a = some (decide (a ∈ l)) := by
  obtain ⟨t, h, e⟩ := impl_CountCoverings.has0 a l (by omega) l.length 1000 0 (by omega) (by omega) (by omega)
  unfold slices_Contains_int_int.f slices_Index_int_int.f
  rw [List.drop_zero] at e
  rw [show (0 : Int) = ((0 : Nat) : Int) from rfl, h, Option.bind_some]
  rw [← e]; rfl
/-- A row of whole numbers of the calls' own. -/
def impl_CountCoverings.LV (b0 : Nat) (W : World) (v : Value) (l : List Int) : Prop := W.ownsRow b0 3 1 v l.length (l.map (Value.int .i64))
theorem impl_CountCoverings.LV.kept {b0 : Nat} {W W' : World} {row : Option Nat} {v : Value} {l : List Int} (h : impl_CountCoverings.LV b0 W v l) (hg : W.grownBy W' row) (hne : v.ownBlock = none ∨ v.ownBlock ≠ row) : impl_CountCoverings.LV b0 W' v l := World.ownsRow.kept h hg hne
theorem impl_CountCoverings.LV.reads {b0 : Nat} {W : World} {v : Value} {l : List Int} (h : impl_CountCoverings.LV b0 W v l) : ∃ A c, v = .slice A l.length c ∧ l.length ≤ c ∧ Kd.C (Kd.int .i64) W A l.length l :=
  Kd.R_reads (Kd.R_of_own (ok := fun _ => True) h (fun _ _ => trivial))
theorem impl_CountCoverings.LV.form {b0 : Nat} {W : World} {v : Value} {l : List Int} (h : impl_CountCoverings.LV b0 W v l) : (l = [] ∧ v = .slice none 0 0) ∨ ∃ g c cur, v = .slice (some ⟨g, 0, none⟩) l.length c ∧ b0 ≤ g ∧ W.heap[g]? = some (.cells cur 3 (0, 0)) := by
  rcases h.2 with ⟨h1, h2⟩ | ⟨g, c, cur, h1, h2, h3, _⟩
  · exact .inl ⟨List.length_eq_zero_iff.1 h2, h1⟩
  · exact .inr ⟨g, c, cur, h1, h2, h3⟩
theorem impl_CountCoverings.own_ne {v : Value} : v.ownBlock = none ∨ v.ownBlock ≠ none := by
  cases v.ownBlock with
  | none => exact .inl rfl
  | some _ => exact .inr (by simp)
theorem impl_CountCoverings.grown_of_below {W W' : World} (hb : Below W.heap.size W W') (row : Option Nat) : W.grownBy W' row := ⟨hb.os, hb.tape, hb.output, hb.size, fun k hk _ => hb.block k hk⟩
theorem impl_CountCoverings.LV.below {b0 : Nat} {W W' : World} {v : Value} {l : List Int} (h : impl_CountCoverings.LV b0 W v l) (hb : Below W.heap.size W W') : impl_CountCoverings.LV b0 W' v l := h.kept (impl_CountCoverings.grown_of_below hb none) impl_CountCoverings.own_ne
/-- What lies in the boxes. -/
structure impl_CountCoverings.Fx (w0 : World) (Bg Be Bp Br Bc Bm : Nat) (vg vp : Value) (r : Int) (W : World) (n : Int) : Prop where
  b0 : Below w0.heap.size w0 W
  cg : Boxed W Bg 22 vg
  ce : Boxed W Be 39 (.func (.func 24) #[] #[.pointer (some ⟨Bm, 0, none⟩)])
  cp : Boxed W Bp 22 vp
  cr : Boxed W Br 3 (.int .i64 r)
  cc : Boxed W Bc 39 (.func (.func 35) #[] #[.pointer (some ⟨Bg, 0, none⟩), .pointer (some ⟨Be, 0, none⟩), .pointer (some ⟨Bp, 0, none⟩), .pointer (some ⟨Br, 0, none⟩), .pointer (some ⟨Bc, 0, none⟩)])
  cm : Boxed W Bm 3 (.int .i64 n)
  hne : Bm ≠ Br
  hbb : w0.heap.size ≤ Bm
theorem impl_CountCoverings.Fx.same {w0 W W' : World} {Bg Be Bp Br Bc Bm : Nat} {vg vp : Value} {r n : Int} (h : impl_CountCoverings.Fx w0 Bg Be Bp Br Bc Bm vg vp r W n) (hk : Below W.heap.size W W') : impl_CountCoverings.Fx w0 Bg Be Bp Br Bc Bm vg vp r W' n := by
  have hg := impl_CountCoverings.grown_of_below hk none
  exact ⟨below_step h.b0 hk, h.cg.kept hg (by simp), h.ce.kept hg (by simp), h.cp.kept hg (by simp), h.cr.kept hg (by simp), h.cc.kept hg (by simp), h.cm.kept hg (by simp), h.hne, h.hbb⟩
theorem impl_CountCoverings.Boxed_ne {W : World} {A B : Nat} {t t' : TypeId} {u v : Value} (h : Boxed W A t u) (h' : Boxed W B t' v) (hne : t ≠ t') : A ≠ B := by
  rintro rfl
  unfold Boxed at h h'
  rw [h] at h'
  simp at h'
  exact hne h'.2
theorem impl_CountCoverings.Fx.put {w0 W : World} {Bg Be Bp Br Bc Bm : Nat} {vg vp : Value} {r n : Int} (h : impl_CountCoverings.Fx w0 Bg Be Bp Br Bc Bm vg vp r W n) (n' : Int) : impl_CountCoverings.Fx w0 Bg Be Bp Br Bc Bm vg vp r (W.setCell ⟨Bm, 0, none⟩ (.int .i64 n')) n' :=
  ⟨Below.setCell (p := ⟨Bm, 0, none⟩) h.b0 h.hbb _, h.cg.other (impl_CountCoverings.Boxed_ne h.cg h.cm (by decide)) _, h.ce.other (impl_CountCoverings.Boxed_ne h.ce h.cm (by decide)) _, h.cp.other (impl_CountCoverings.Boxed_ne h.cp h.cm (by decide)) _, h.cr.other (Ne.symm h.hne) _, h.cc.other (impl_CountCoverings.Boxed_ne h.cc h.cm (by decide)) _, h.cm.set _, h.hne, h.hbb⟩
theorem impl_CountCoverings.clone (b0 : Nat) (W : World) (v : Value) (l : List Int) (h : impl_CountCoverings.LV b0 W v l) (hb : b0 ≤ W.heap.size) (hl : l.length ≤ 100) :
    Calls Try.prog 29 #[v] W fun e w' => ∃ v', e = .returned v' ∧ impl_CountCoverings.LV W.heap.size w' v' l ∧ Below W.heap.size W w' := by
  rcases impl_CountCoverings.LV.form h with ⟨rfl, rfl⟩ | ⟨g, c, cur, rfl, _⟩
  · refine (AnyE.slices_Clone_nil Try.laysClone 0 0 W).mono ?_
    rintro e w' ⟨rfl, rfl⟩
    exact ⟨_, rfl, World.ownsRow_nil _ _ _ _, Below.refl _ _⟩
  · obtain ⟨i0, hi0, hi1⟩ := Option.map_eq_some_iff.1 info3
    simp only [Prod.mk.injEq] at hi1
    refine (AnyE.slices_Clone Try.laysClone i0 (.int .i64 0) 1 8 hi0 hi1.1 hi1.2.1 hi1.2.2 rfl (by decide) Try.sizeOf3 g 0 l.length c (l.map (Value.int .i64)) W (by simp) (by unfold maxLen; omega) (by omega) ?_ (fun u hu => ?_)).mono ?_
    · intro j u hj
      have := h.cells (g := g) rfl j u hj
      rwa [Addr.add_lit] at this
    · obtain ⟨x, _, rfl⟩ := List.mem_map.1 hu; rfl
    · rintro e w' ⟨v', rfl, ho, _, hbw⟩
      refine ⟨v', rfl, ⟨ho.1, ?_⟩, hbw⟩
      rcases ho.2 with hn | ⟨g', c', cur', e1, e2, e3⟩
      · exact .inl hn
      · exact .inr ⟨g', c', cur', e1, e2, e3⟩
theorem impl_CountCoverings.wpOp_of {P : Program} {ops : Array Oper} {Q : Exit → Act → World → Prop} {i : Nat} {K : Act → World → Prop} {a : Act} {w : World} {o : Oper} (ho : ops[i]? = some o) (h : ∀ (K' : Act → World → Prop), (∀ a' w', K a' w' → K' a' w') → (if Region.wanted o (yielded ops a.tmps) then o.wp P a w K' Q ∨ (o.asks P a w ∧ LetsOut Q) else K' (a.put o.dst undef) w)) : wpOp P ops Q i K a w := by
  unfold Go.wpOp
  rw [ho]
  exact h K (fun _ _ h => h)
/-- many++. -/
theorem impl_CountCoverings.one (v : Value) (Bm : Nat) (n : Int) (W : World) (hm : Boxed W Bm 3 (.int .i64 n)) (h0 : 0 ≤ n ∧ n ≤ 1000000) : Calls Try.prog 24 #[v, .pointer (some ⟨Bm, 0, none⟩)] W fun e W' => e = .returned (.tuple #[]) ∧ W' = W.setCell ⟨Bm, 0, none⟩ (.int .i64 (n + 1)) := by
  have q1 := hm.cell
  have q2 := hm.frozen
  have wn : wrap64 (n + 1) = n + 1 := by unfold wrap64; omega
  have wn' : IntKind.i64.wrap (n + 1) = n + 1 := (i64_w _).trans wn
  go_enter Try.func24, Try.ntmps24
  go_wp2
  go_end0
  exact ⟨rfl, rfl⟩
/-- What holds within the drawn region of the condition. -/
structure impl_CountCoverings.RC (wr : World) (vg V0 : Value) (x y r i ll : Int) (AD : Addr) (sp hs : Bool) (L : Nat → Bool) (v24 v25 v26 v27 v28 v29 v30 v31 v32 v33 v34 v35 v36 v37 v38 v39 : Value) (W : World) : Prop where
  hb : Below wr.heap.size wr W
  h0 : L 0 = true → v24 = .int .i64 x
  h1 : L 1 = true → v25 = vg
  h2 : L 2 = true → v26 = V0
  h3 : L 3 = true → v27 = .int .i64 ll
  h4 : L 4 = true → v28 = .pointer (some AD)
  h5 : L 5 = true → v29 = .int .i64 y
  h6 : L 6 = true → v30 = .int .i64 r
  h7 : L 7 = true → v31 = .int .i64 (2 * r)
  h8 : L 8 = true → v32 = .int .i64 (y + 2 * r)
  h9 : L 9 = true → v33 = .bool sp
  h10 : L 10 = true → v34 = .bool sp
  h11 : L 11 = true → sp = true → v35 = V0
  h12 : L 12 = true → sp = true → v36 = .int .i64 i
  h13 : L 13 = true → sp = true → v37 = .bool hs
  h14 : L 14 = true → sp = true → v38 = .bool (!hs)
  h15 : L 15 = true → v39 = .bool (sp && !hs)
/-- What holds within the drawn region of the next look. -/
structure impl_CountCoverings.RD (w0 w5 : World) (Bg Be Bp Br Bc Bm : Nat) (vg vp CF V0 : Value) (r i n' : Int) (l : List Int) (L : Nat → Bool) (v40 v41 v42 v43 v44 v45 v46 : Value) (W : World) : Prop where
  hb : L 6 = false → Below w5.heap.size w5 W
  e6 : L 6 = true → impl_CountCoverings.Fx w0 Bg Be Bp Br Bc Bm vg vp r W n' ∧ w5.grownBy W (some Bm)
  h0 : L 0 = true → v40 = CF
  h1 : L 1 = true → v41 = V0
  h2 : L 2 = true → L 5 = false → impl_CountCoverings.LV w5.heap.size W v42 l
  h3 : L 3 = true → v43 = .int .i64 i
  h4 : L 4 = true → L 5 = false → ∃ gb, v44 = .slice (some ⟨gb, 0, none⟩) 1 1 ∧ W.heap[gb]? = some (.cells #[.int .i64 i] 3 (0, 0))
  h5 : L 5 = true → L 6 = false → impl_CountCoverings.LV w5.heap.size W v45 (l ++ [i])
  o5 : L 5 = true → L 2 = true ∧ L 4 = true
  o6 : L 6 = true → L 5 = true
theorem impl_CountCoverings.RD.world {w0 w5 : World} {Bg Be Bp Br Bc Bm : Nat} {vg vp CF V0 : Value} {r i n' : Int} {l : List Int} {L : Nat → Bool} {v40 v41 v42 v43 v44 v45 v46 : Value} {W W' : World} (H : impl_CountCoverings.RD w0 w5 Bg Be Bp Br Bc Bm vg vp CF V0 r i n' l L v40 v41 v42 v43 v44 v45 v46 W) (h6 : L 6 = false) (hk : Below W.heap.size W W') : impl_CountCoverings.RD w0 w5 Bg Be Bp Br Bc Bm vg vp CF V0 r i n' l L v40 v41 v42 v43 v44 v45 v46 W' :=
  ⟨fun hl => below_step (H.hb hl) hk, (fun hl => by rw [h6] at hl; cases hl), H.h0, H.h1, fun hl hl5 => (H.h2 hl hl5).below hk, H.h3, fun hl hl5 => by
    obtain ⟨gb, e, hg⟩ := H.h4 hl hl5
    exact ⟨gb, e, (hk.block gb (Array.getElem?_eq_some_iff.1 hg).1).trans hg⟩, fun hl hl6 => (H.h5 hl hl6).below hk, H.o5, H.o6⟩
set_option maxHeartbeats 8000000 in
set_option maxRecDepth 100000 in
theorem impl_CountCoverings.choose (g p : List Int) (r : Int) (hB : covB g p r) (w0 : World) (Ag Ap : Option Addr) (cg cp : Nat) (hg : Kd.C (Kd.int .i64) w0 Ag g.length g) (hp : Kd.C (Kd.int .i64) w0 Ap p.length p) (Bg Be Bp Br Bc Bm : Nat) (d : Nat) :
    ∀ (l : List Int) (m : Int) (v : Value) (W : World), l.length + d = g.length → 0 ≤ m → m + ((7 ^ d : Nat) : Int) ≤ 1000000 → impl_CountCoverings.LV w0.heap.size W v l → v.ownBlock ≠ some Bm → impl_CountCoverings.Fx w0 Bg Be Bp Br Bc Bm (.slice Ag g.length cg) (.slice Ap p.length cp) r W m →
    Calls Try.prog 35 #[v, .pointer (some ⟨Bg, 0, none⟩), .pointer (some ⟨Be, 0, none⟩), .pointer (some ⟨Bp, 0, none⟩), .pointer (some ⟨Br, 0, none⟩), .pointer (some ⟨Bc, 0, none⟩)] W fun e W' => e = .returned (.tuple #[]) ∧ impl_CountCoverings.Fx w0 Bg Be Bp Br Bc Bm (.slice Ag g.length cg) (.slice Ap p.length cp) r W' (cov g p r d l m) ∧ W.grownBy W' (some Bm) := by
  induction d with
  | zero =>
    intro l m v W hl hm hmb hv hnb hF
    obtain ⟨A, c, rfl, hc, hC⟩ := hv.reads
    have HF := Aside0.mk hF
    have q1 := hF.cg.cell
    have q2 := hF.ce.cell
    have e0 : ((l.length : Int) == (g.length : Int)) = true := by simp; omega
    have HM := Aside0.mk (show 0 ≤ m ∧ m ≤ 1000000 by have := hmb; omega)
    clear hF hv hC hmb
    go_enter Try.func35, Try.ntmps35
    go_wp2_with (go_at_call 24; (refine (impl_CountCoverings.one _ Bm m _ HF.out.cm HM.out).mono ?_); rintro e w4 ⟨rfl, rfl⟩)
    refine bodyPost_ret (results_none rfl _ _ _) rfl ?_
    exact ⟨rfl, HF.out.put _, grownBy_setCell' W Bm _⟩
  | succ d ih =>
    intro l m v W hl hm hmb hv hnb hF
    obtain ⟨A, c, rfl, hc, hC⟩ := hv.reads
    have IH := Aside0.mk ih
    have HF := Aside0.mk hF
    have HV := Aside0.mk hv
    have HBN := Aside0.mk hB
    have HG := Aside0.mk hg
    have HP := Aside0.mk hp
    have HC := Aside0.mk hc
    have HNB := Aside0.mk hnb
    have HMS := Aside0.mk (cov_start hB.2.1.2 hmb)
    have q1 := hF.cg.cell
    have q2 := hF.cp.cell
    have e0 : ((l.length : Int) == (g.length : Int)) = false := by simp; omega
    have hl2 : l.length < g.length := by omega
    clear ih hF hv hB hg hp hC hc hmb hnb
    go_enter Try.func35, Try.ntmps35
    go_wp2
    go_loopg [19] p.length (fun kq v19 w' => ∃ n : Int, v19 = .int .i64 ((p.length : Int) - (kq : Int)) ∧ Aside0 (kq ≤ p.length) ∧ Aside0 (covL (cov g p r d) g p r kq l n = cov g p r (d + 1) l m) ∧ Aside0 (0 ≤ n ∧ n + ((kq * 7 ^ d : Nat) : Int) ≤ 1000000) ∧ Aside0 (impl_CountCoverings.Fx w0 Bg Be Bp Br Bc Bm (.slice Ag g.length cg) (.slice Ap p.length cp) r w' n) ∧ Aside0 (W.grownBy w' (some Bm)))
    case atStart => exact ⟨m, by simp, ⟨Nat.le_refl _⟩, ⟨rfl⟩, ⟨hm, HMS.out⟩, HF, ⟨World.grownBy.refl W (some Bm)⟩⟩
    case round =>
      obtain ⟨n, rfl, HK, HE, HM, HFi, HGi⟩ := hrel
      cases gk with
      | zero =>
        have hd1 : decide ((p.length : Int) - ((0 : Nat) : Int) < (p.length : Int)) = false := decide_eq_false (by omega)
        go_wp2
        go_end0
        exact ⟨rfl, by have := HE.out; simp only [covL] at this; rw [← this]; exact HFi.out, HGi.out⟩
      | succ k1 =>
        have HRM := Aside0.mk (cov_room HM.out.2)
        have HE2 := HE.out
        simp only [covL] at HE2
        obtain ⟨i, hi⟩ : ∃ i : Int, (p.length : Int) - ((k1 + 1 : Nat) : Int) = i := ⟨_, rfl⟩
        rw [hi] at HE2
        rw [hi]
        have hi0 : 0 ≤ i := by have := HK.out; omega
        have hi1 : i < (p.length : Int) := by omega
        have hin : i + 1 = (p.length : Int) - (k1 : Int) := by omega
        have hd1 : decide (i < (p.length : Int)) = true := decide_eq_true hi1
        have hpl := HBN.out.2.1.2
        have hgl := HBN.out.1.2
        have hll : l.length ≤ 100 := by omega
        obtain ⟨adp, ep, hcp1⟩ := Kd.at_int HP.out i hi0 hi1
        obtain ⟨adg, eg, hcg1⟩ := Kd.at_int HG.out (l.length : Int) (by omega) (by omega)
        cases ep
        cases eg
        rw [Int.toNat_natCast] at hcg1
        replace hcp1 := (HFi.out.b0.cell (World.block_lt_of_cell? w0 _ hcp1)).trans hcp1
        replace hcg1 := (HFi.out.b0.cell (World.block_lt_of_cell? w0 _ hcg1)).trans hcg1
        have bx := HBN.out.2.2.2.2 i.toNat (by omega)
        have by_ := HBN.out.2.2.2.1 l.length hl2
        rw [show ((i.toNat : Nat) : Int) = i by omega] at bx
        obtain ⟨x, hx⟩ : ∃ x : Int, rd p i = x := ⟨_, rfl⟩
        obtain ⟨y, hy⟩ : ∃ y : Int, rd g (l.length : Int) = y := ⟨_, rfl⟩
        rw [hx] at hcp1 bx
        rw [hy] at hcg1 by_
        have br := HBN.out.2.2.1
        have wi : wrap64 (i + 1) = i + 1 := by unfold wrap64; omega
        have wi' : IntKind.i64.wrap (i + 1) = i + 1 := (i64_w _).trans wi
        have wr2 : IntKind.i64.wrap (2 * r) = 2 * r := (i64_w _).trans (by unfold wrap64; omega)
        have wy : IntKind.i64.wrap (y + 2 * r) = y + 2 * r := (i64_w _).trans (by unfold wrap64; omega)
        have hnr : Aside0 ((Value.slice A l.length c).ownBlock = none ∨ (Value.slice A l.length c).ownBlock ≠ some Bm) := ⟨.inr HNB.out⟩
        have HVi := Aside0.mk (HV.out.kept HGi.out hnr.out)
        have HCi : Aside0 (Kd.C (Kd.int .i64) wr A l.length l) := by
          obtain ⟨A', c', e, _, h⟩ := HVi.out.reads
          cases e
          exact ⟨h⟩
        have p0 : decide (0 ≤ i) = true := decide_eq_true hi0
        have HLL := Aside0.mk hll
        obtain ⟨sp, hspe⟩ : ∃ b : Bool, decide (y + 2 * r ≤ x) = b := ⟨_, rfl⟩
        obtain ⟨hs, hhse⟩ : ∃ b : Bool, decide (i ∈ l) = b := ⟨_, rfl⟩
        have HHS := Aside0.mk ((impl_CountCoverings.has i l hll).trans (by rw [hhse]))
        have HSP := Aside0.mk hspe
        have hcov : covIn g p r l i = (sp && !hs) := by unfold covIn; rw [hx, hy, hspe, hhse]
        rw [hcov] at HE2
        have HE3 := Aside0.mk HE2
        clear HE2 HE
        go_wp2
        have p1 : decide (0 ≤ (l.length : Int)) = true := decide_eq_true (by omega)
        have p2 : decide ((l.length : Int) < (g.length : Int)) = true := decide_eq_true (by omega)
        refine region_inv (J := fun L a Wc => ∃ v24 v25 v26 v27 v28 v29 v30 v31 v32 v33 v34 v35 v36 v37 v38 v39 : Value, a = { tmps := #[Value.slice A l.length c, Value.pointer (some ⟨Bg, 0, none⟩), Value.pointer (some ⟨Be, 0, none⟩), Value.pointer (some ⟨Bp, 0, none⟩), Value.pointer (some ⟨Br, 0, none⟩), Value.pointer (some ⟨Bc, 0, none⟩), undef, Value.int .i64 i, Value.int .i64 x, Value.slice A l.length c, Value.int .i64 (l.length : Int), Value.slice (some adg) g.length cg, Value.int .i64 (g.length : Int), Value.bool false, undef, undef, undef, Value.slice (some adp) p.length cp, Value.int .i64 (p.length : Int), Value.int .i64 i, Value.bool true, Value.int .i64 i, Value.pointer (some (adp.add i.toNat)), Value.int .i64 x, v24, v25, v26, v27, v28, v29, v30, v31, v32, v33, v34, v35, v36, v37, v38, v39, u40, u41, u42, u43, u44, u45, u46, u47], defers := [] } ∧ impl_CountCoverings.RC wr (.slice (some adg) g.length cg) (.slice A l.length c) x y r i (l.length : Int) (adg.add l.length) sp hs L v24 v25 v26 v27 v28 v29 v30 v31 v32 v33 v34 v35 v36 v37 v38 v39 Wc) (by kernel_rfl) (by kernel_rfl) ?start ?step ?fin
        case start => exact ⟨_, _, _, _, _, _, _, _, _, _, _, _, _, _, _, _, rfl, ⟨below_drew1 (Below.refl _ _), nofun, nofun, nofun, nofun, nofun, nofun, nofun, nofun, nofun, nofun, nofun, nofun, nofun, nofun, nofun, nofun⟩⟩
        case fin => 
          rintro L a w5 hall ⟨v24, v25, v26, v27, v28, v29, v30, v31, v32, v33, v34, v35, v36, v37, v38, v39, rfl, H⟩
          obtain rfl := H.h15 (hall 15 (by decide))
          have HB5 := Aside0.mk H.hb
          have HF5 := Aside0.mk (HFi.out.same H.hb)
          have HV5 := Aside0.mk (HVi.out.below H.hb)
          have HSZ := Aside0.mk (below_size HF5.out.b0)
          clear H hall
          obtain ⟨cb, hcb⟩ : ∃ cb : Bool, (sp && !hs) = cb := ⟨_, rfl⟩
          rw [hcb]
          have HE5 := HE3.out
          rw [hcb] at HE5
          cases cb with
          | false =>
            rw [if_neg (by decide)] at HE5
            have HE4 := Aside0.mk HE5
            clear HE5 HE3
            go_wp2
            go_roundg k1
            case measure => omega
            case rel => exact ⟨n, rfl, ⟨by omega⟩, HE4, ⟨HM.out.1, HRM.out.2 n (Int.le_add_of_nonneg_right (Int.natCast_nonneg _))⟩, HF5, ⟨HGi.out.trans (impl_CountCoverings.grown_of_below HB5.out (some Bm))⟩⟩
          | true =>
            rw [if_pos rfl] at HE5
            have HE4 := Aside0.mk HE5
            clear HE5 HE3
            go_wp2
            refine region_inv (J := fun L a Wc => ∃ v40 v41 v42 v43 v44 v45 v46 : Value, a = { tmps := #[Value.slice A l.length c, Value.pointer (some ⟨Bg, 0, none⟩), Value.pointer (some ⟨Be, 0, none⟩), Value.pointer (some ⟨Bp, 0, none⟩), Value.pointer (some ⟨Br, 0, none⟩), Value.pointer (some ⟨Bc, 0, none⟩), undef, Value.int .i64 i, Value.int .i64 x, Value.slice A l.length c, Value.int .i64 (l.length : Int), Value.slice (some adg) g.length cg, Value.int .i64 (g.length : Int), Value.bool false, undef, undef, undef, Value.slice (some adp) p.length cp, Value.int .i64 (p.length : Int), Value.int .i64 i, Value.bool true, Value.int .i64 i, Value.pointer (some (adp.add i.toNat)), Value.int .i64 x, v24, v25, v26, v27, v28, v29, v30, v31, v32, v33, v34, v35, v36, v37, v38, Value.bool true, v40, v41, v42, v43, v44, v45, v46, u47], defers := [] } ∧ impl_CountCoverings.RD w0 w5 Bg Be Bp Br Bc Bm (.slice (some adg) g.length cg) (.slice (some adp) p.length cp) (.func (.func 35) #[] #[.pointer (some ⟨Bg, 0, none⟩), .pointer (some ⟨Be, 0, none⟩), .pointer (some ⟨Bp, 0, none⟩), .pointer (some ⟨Br, 0, none⟩), .pointer (some ⟨Bc, 0, none⟩)]) (.slice A l.length c) r i (cov g p r d (l ++ [i]) n) l L v40 v41 v42 v43 v44 v45 v46 Wc) (by kernel_rfl) (by kernel_rfl) ?start6 ?step6 ?fin6
            case start6 => exact ⟨_, _, _, _, _, _, _, rfl, ⟨fun _ => below_drew1 (Below.refl _ _), nofun, nofun, nofun, nofun, nofun, nofun, nofun, nofun, nofun⟩⟩
            case fin6 =>
              rintro L a w6 hall ⟨v40, v41, v42, v43, v44, v45, v46, rfl, H⟩
              obtain ⟨hF', hg'⟩ := H.e6 (hall 6 (by decide))
              have HF6 := Aside0.mk hF'
              have HG6 := Aside0.mk ((HGi.out.trans (impl_CountCoverings.grown_of_below HB5.out (some Bm))).trans hg')
              have hcl := cov_le (g := g) (r := r) HBN.out.2.1.2 d (l ++ [i]) n
              clear H hall hF' hg'
              go_wp2
              go_roundg k1
              case measure => omega
              case rel => exact ⟨_, rfl, ⟨by omega⟩, ⟨HE4.out⟩, ⟨by have := HM.out.1; omega, HRM.out.2 _ hcl.2⟩, HF6, HG6⟩
            case step6 =>
              rintro L a Wc j o ho hL hp ⟨v40, v41, v42, v43, v44, v45, v46, rfl, H⟩
              have hj : j < 7 := (Array.getElem?_eq_some_iff.1 ho).1
              have hc1 : Wc.cell? ⟨Bc, 0, none⟩ = some (.func (.func 35) #[] #[.pointer (some ⟨Bg, 0, none⟩), .pointer (some ⟨Be, 0, none⟩), .pointer (some ⟨Bp, 0, none⟩), .pointer (some ⟨Br, 0, none⟩), .pointer (some ⟨Bc, 0, none⟩)]) := by
                cases e : L 6 with
                | false => exact (HF5.out.same (H.hb e)).cc.cell
                | true => exact (H.e6 e).1.cc.cell
              rcases (show j = 0 ∨ j = 1 ∨ j = 2 ∨ j = 3 ∨ j = 4 ∨ j = 5 ∨ j = 6 by omega) with rfl | rfl | rfl | rfl | rfl | rfl | rfl
              all_goals (obtain rfl : _ = o := Option.some.inj (show some _ = some o from ho); simp [Region.binds] at hp; refine impl_CountCoverings.wpOp_of rfl (fun K hK => ?_))
              · -- operation 0
                go_simp
                refine Or.inl ?_
                have H1 := H
                refine hK _ _ ⟨_, v41, v42, v43, v44, v45, v46, rfl, ⟨?_, ?_, ?_, ?_, ?_, ?_, ?_, ?_, ?_, ?_⟩⟩
                · exact fun hl => H1.hb (by simpa using hl)
                · exact fun hl => H1.e6 (by simpa using hl)
                · exact fun _ => rfl
                · exact fun hl => H1.h1 (by simpa using hl)
                · exact fun hl hl5 => H1.h2 (by simpa using hl) (by simpa using hl5)
                · exact fun hl => H1.h3 (by simpa using hl)
                · exact fun hl hl5 => H1.h4 (by simpa using hl) (by simpa using hl5)
                · exact fun hl hl5 => H1.h5 (by simpa using hl) (by simpa using hl5)
                · exact fun hl => by have := H1.o5 (by simpa using hl); simp [this]
                · exact fun hl => by have := H1.o6 (by simpa using hl); simp [this]
              · -- operation 1
                go_simp
                refine Or.inl ?_
                have H1 := H
                refine hK _ _ ⟨v40, _, v42, v43, v44, v45, v46, rfl, ⟨?_, ?_, ?_, ?_, ?_, ?_, ?_, ?_, ?_, ?_⟩⟩
                · exact fun hl => H1.hb (by simpa using hl)
                · exact fun hl => H1.e6 (by simpa using hl)
                · exact fun hl => H1.h0 (by simpa using hl)
                · exact fun _ => rfl
                · exact fun hl hl5 => H1.h2 (by simpa using hl) (by simpa using hl5)
                · exact fun hl => H1.h3 (by simpa using hl)
                · exact fun hl hl5 => H1.h4 (by simpa using hl) (by simpa using hl5)
                · exact fun hl hl5 => H1.h5 (by simpa using hl) (by simpa using hl5)
                · exact fun hl => by have := H1.o5 (by simpa using hl); simp [this]
                · exact fun hl => by have := H1.o6 (by simpa using hl); simp [this]
              · -- operation 2
                obtain rfl := H.h1 hp
                have h6 : L 6 = false := by cases e : L 6 with | false => rfl | true => exact absurd (H.o5 (H.o6 e)).1 (by simp [hL])
                have hbc := H.hb h6
                go_simp
                refine Or.inl ?_
                refine (impl_CountCoverings.clone w0.heap.size Wc _ l (HV5.out.below hbc) (Nat.le_trans HSZ.out hbc.size) HLL.out).mono ?_
                rintro e w' ⟨v', rfl, hlv, hbw⟩
                have H1 := H.world h6 hbw
                refine hK _ _ ⟨v40, _, _, v43, v44, v45, v46, rfl, ⟨?_, ?_, ?_, ?_, ?_, ?_, ?_, ?_, ?_, ?_⟩⟩
                · exact fun hl => H1.hb (by simpa using hl)
                · exact fun hl => H1.e6 (by simpa using hl)
                · exact fun hl => H1.h0 (by simpa using hl)
                · exact fun hl => H1.h1 (by simpa using hl)
                · exact fun _ _ => own_less hlv hbc.size
                · exact fun hl => H1.h3 (by simpa using hl)
                · exact fun hl hl5 => H1.h4 (by simpa using hl) (by simpa using hl5)
                · exact fun hl hl5 => H1.h5 (by simpa using hl) (by simpa using hl5)
                · exact fun hl => by have := H1.o5 (by simpa using hl); simp [this]
                · exact fun hl => by have := H1.o6 (by simpa using hl); simp [this]
              · -- operation 3
                go_simp
                refine Or.inl ?_
                have H1 := H
                refine hK _ _ ⟨v40, v41, v42, _, v44, v45, v46, rfl, ⟨?_, ?_, ?_, ?_, ?_, ?_, ?_, ?_, ?_, ?_⟩⟩
                · exact fun hl => H1.hb (by simpa using hl)
                · exact fun hl => H1.e6 (by simpa using hl)
                · exact fun hl => H1.h0 (by simpa using hl)
                · exact fun hl => H1.h1 (by simpa using hl)
                · exact fun hl hl5 => H1.h2 (by simpa using hl) (by simpa using hl5)
                · exact fun _ => rfl
                · exact fun hl hl5 => H1.h4 (by simpa using hl) (by simpa using hl5)
                · exact fun hl hl5 => H1.h5 (by simpa using hl) (by simpa using hl5)
                · exact fun hl => by have := H1.o5 (by simpa using hl); simp [this]
                · exact fun hl => by have := H1.o6 (by simpa using hl); simp [this]
              · -- operation 4
                obtain rfl := H.h3 hp
                have h6 : L 6 = false := by cases e : L 6 with | false => rfl | true => exact absurd (H.o5 (H.o6 e)).2 (by simp [hL])
                go_simp
                refine Or.inl ?_
                have H1 := H.world h6 (below_alloc (Below.refl _ _) (Obj.cells #[.int .i64 i] 3))
                refine hK _ _ ⟨v40, v41, v42, _, _, v45, v46, rfl, ⟨?_, ?_, ?_, ?_, ?_, ?_, ?_, ?_, ?_, ?_⟩⟩
                · exact fun hl => H1.hb (by simpa using hl)
                · exact fun hl => H1.e6 (by simpa using hl)
                · exact fun hl => H1.h0 (by simpa using hl)
                · exact fun hl => H1.h1 (by simpa using hl)
                · exact fun hl hl5 => H1.h2 (by simpa using hl) (by simpa using hl5)
                · exact fun hl => H1.h3 (by simpa using hl)
                · exact fun _ _ => ⟨Wc.heap.size, rfl, Boxed.new Wc _ _⟩
                · exact fun hl hl5 => H1.h5 (by simpa using hl) (by simpa using hl5)
                · exact fun hl => by have := H1.o5 (by simpa using hl); simp [this]
                · exact fun hl => by have := H1.o6 (by simpa using hl); simp [this]
              · -- operation 5
                have h6 : L 6 = false := by cases e : L 6 with | false => rfl | true => exact absurd (H.o6 e) (by simp [hL])
                have hlv := H.h2 hp.1 hL
                obtain ⟨gb5, rfl, hg5⟩ := H.h4 (by simp [hp]) hL
                obtain ⟨i0, hi0, hi1⟩ := Option.map_eq_some_iff.1 info3
                simp only [Prod.mk.injEq] at hi1
                rw [if_pos (by rfl)]
                refine Or.inl (wp_append_own Wc (.tmp 42) (.tmp 44) 22 rfl w5.heap.size 3 i0 (.int .i64 0) 1 8 Try.underlying22 hi0 hi1.1 hi1.2.1 hi1.2.2 rfl (by decide) v42 l.length (l.map (Value.int .i64)) rfl hlv ⟨gb5, 0, none⟩ 1 1 [.int .i64 i] rfl rfl (fun j u hj => ?_) (fun u hu => ?_) (by have := HLL.out; unfold maxLen; omega) (by have := HLL.out; omega) (H.hb h6).size (fun v' w' hown hgr _ => ?_))
                · match j, hj with
                  | 0, hj => (obtain rfl := Option.some.inj (show some _ = some u from hj); exact (Boxed.cell (t := 3) hg5))
                · simp only [List.mem_singleton] at hu; subst hu; rfl
                have H1 := H
                have hbg := (H.hb h6).grown hgr (H.hb h6).size (fun k hk => own_base hlv k hk)
                refine hK _ _ ⟨v40, v41, v42, v43, _, _, v46, rfl, ⟨?_, ?_, ?_, ?_, ?_, ?_, ?_, ?_, ?_, ?_⟩⟩
                · exact fun _ => hbg
                · exact fun hl => by simp [h6] at hl
                · exact fun hl => H1.h0 (by simpa using hl)
                · exact fun hl => H1.h1 (by simpa using hl)
                · exact fun hl hl5 => by simp at hl5
                · exact fun hl => H1.h3 (by simpa using hl)
                · exact fun hl hl5 => by simp at hl5
                · exact fun _ _ => by have := hown; unfold impl_CountCoverings.LV; rw [List.length_append, List.map_append]; exact this
                · exact fun _ => by simp [hp]
                · exact fun hl => by simp
              · -- operation 6
                obtain rfl := H.h0 hp.1
                have hlv := H.h5 hp.2 hL
                have hbc := H.hb hL
                go_simp
                refine Or.inl ?_
                refine (IH.out (l ++ [i]) n v45 Wc (by rw [List.length_append, List.length_singleton]; omega) HM.out.1 HRM.out.1 (own_less hlv HSZ.out) (fun e => by have h1 := own_base hlv Bm e; have h2 := HF5.out.cm.lt; omega) (HF5.out.same hbc)).mono ?_
                rintro e w' ⟨rfl, hF', hg'⟩
                have H1 := H
                refine hK _ _ ⟨_, v41, v42, v43, v44, v45, _, rfl, ⟨?_, ?_, ?_, ?_, ?_, ?_, ?_, ?_, ?_, ?_⟩⟩
                · exact fun hl => by simp at hl
                · exact fun _ => ⟨hF', (impl_CountCoverings.grown_of_below hbc (some Bm)).trans hg'⟩
                · exact fun hl => H1.h0 (by simpa using hl)
                · exact fun hl => H1.h1 (by simpa using hl)
                · exact fun _ hl5 => by simp [hp] at hl5
                · exact fun hl => H1.h3 (by simpa using hl)
                · exact fun _ hl5 => by simp [hp] at hl5
                · exact fun _ hl5 => by simp at hl5
                · exact fun hl => by have := H1.o5 (by simpa using hl); simp [this]
                · exact fun _ => by simp [hp]
        case step =>
          rintro L a Wc j o ho hL hp ⟨v24, v25, v26, v27, v28, v29, v30, v31, v32, v33, v34, v35, v36, v37, v38, v39, rfl, H⟩
          have hj : j < 16 := (Array.getElem?_eq_some_iff.1 ho).1
          have hF2 := HFi.out.same H.hb
          have hc1 := hF2.cg.cell
          have hc2 := hF2.cr.cell
          have hc3 : Wc.cell? (adg.add l.length) = some (.int .i64 y) := (H.hb.cell (World.block_lt_of_cell? wr _ hcg1)).trans hcg1
          rcases (show j = 0 ∨ j = 1 ∨ j = 2 ∨ j = 3 ∨ j = 4 ∨ j = 5 ∨ j = 6 ∨ j = 7 ∨ j = 8 ∨ j = 9 ∨ j = 10 ∨ j = 11 ∨ j = 12 ∨ j = 13 ∨ j = 14 ∨ j = 15 by omega) with rfl | rfl | rfl | rfl | rfl | rfl | rfl | rfl | rfl | rfl | rfl | rfl | rfl | rfl | rfl | rfl
          all_goals (obtain rfl : _ = o := Option.some.inj (show some _ = some o from ho); simp [Region.binds] at hp; refine impl_CountCoverings.wpOp_of rfl (fun K hK => ?_))
          · -- operation 0
            go_simp
            refine Or.inl ?_
            have H1 := H
            refine hK _ _ ⟨_, v25, v26, v27, v28, v29, v30, v31, v32, v33, v34, v35, v36, v37, v38, v39, rfl, ⟨?_, ?_, ?_, ?_, ?_, ?_, ?_, ?_, ?_, ?_, ?_, ?_, ?_, ?_, ?_, ?_, ?_⟩⟩
            · exact H1.hb
            · exact fun _ => rfl
            · exact fun hl => H1.h1 (by simpa using hl)
            · exact fun hl => H1.h2 (by simpa using hl)
            · exact fun hl => H1.h3 (by simpa using hl)
            · exact fun hl => H1.h4 (by simpa using hl)
            · exact fun hl => H1.h5 (by simpa using hl)
            · exact fun hl => H1.h6 (by simpa using hl)
            · exact fun hl => H1.h7 (by simpa using hl)
            · exact fun hl => H1.h8 (by simpa using hl)
            · exact fun hl => H1.h9 (by simpa using hl)
            · exact fun hl => H1.h10 (by simpa using hl)
            · exact fun hl hs_ => H1.h11 (by simpa using hl) hs_
            · exact fun hl hs_ => H1.h12 (by simpa using hl) hs_
            · exact fun hl hs_ => H1.h13 (by simpa using hl) hs_
            · exact fun hl hs_ => H1.h14 (by simpa using hl) hs_
            · exact fun hl => H1.h15 (by simpa using hl)
          · -- operation 1
            go_simp
            refine Or.inl ?_
            have H1 := H
            refine hK _ _ ⟨v24, _, v26, v27, v28, v29, v30, v31, v32, v33, v34, v35, v36, v37, v38, v39, rfl, ⟨?_, ?_, ?_, ?_, ?_, ?_, ?_, ?_, ?_, ?_, ?_, ?_, ?_, ?_, ?_, ?_, ?_⟩⟩
            · exact H1.hb
            · exact fun hl => H1.h0 (by simpa using hl)
            · exact fun _ => rfl
            · exact fun hl => H1.h2 (by simpa using hl)
            · exact fun hl => H1.h3 (by simpa using hl)
            · exact fun hl => H1.h4 (by simpa using hl)
            · exact fun hl => H1.h5 (by simpa using hl)
            · exact fun hl => H1.h6 (by simpa using hl)
            · exact fun hl => H1.h7 (by simpa using hl)
            · exact fun hl => H1.h8 (by simpa using hl)
            · exact fun hl => H1.h9 (by simpa using hl)
            · exact fun hl => H1.h10 (by simpa using hl)
            · exact fun hl hs_ => H1.h11 (by simpa using hl) hs_
            · exact fun hl hs_ => H1.h12 (by simpa using hl) hs_
            · exact fun hl hs_ => H1.h13 (by simpa using hl) hs_
            · exact fun hl hs_ => H1.h14 (by simpa using hl) hs_
            · exact fun hl => H1.h15 (by simpa using hl)
          · -- operation 2
            go_simp
            refine Or.inl ?_
            have H1 := H
            refine hK _ _ ⟨v24, v25, _, v27, v28, v29, v30, v31, v32, v33, v34, v35, v36, v37, v38, v39, rfl, ⟨?_, ?_, ?_, ?_, ?_, ?_, ?_, ?_, ?_, ?_, ?_, ?_, ?_, ?_, ?_, ?_, ?_⟩⟩
            · exact H1.hb
            · exact fun hl => H1.h0 (by simpa using hl)
            · exact fun hl => H1.h1 (by simpa using hl)
            · exact fun _ => rfl
            · exact fun hl => H1.h3 (by simpa using hl)
            · exact fun hl => H1.h4 (by simpa using hl)
            · exact fun hl => H1.h5 (by simpa using hl)
            · exact fun hl => H1.h6 (by simpa using hl)
            · exact fun hl => H1.h7 (by simpa using hl)
            · exact fun hl => H1.h8 (by simpa using hl)
            · exact fun hl => H1.h9 (by simpa using hl)
            · exact fun hl => H1.h10 (by simpa using hl)
            · exact fun hl hs_ => H1.h11 (by simpa using hl) hs_
            · exact fun hl hs_ => H1.h12 (by simpa using hl) hs_
            · exact fun hl hs_ => H1.h13 (by simpa using hl) hs_
            · exact fun hl hs_ => H1.h14 (by simpa using hl) hs_
            · exact fun hl => H1.h15 (by simpa using hl)
          · -- operation 3
            obtain rfl := H.h2 hp
            go_simp
            refine Or.inl ?_
            have H1 := H
            refine hK _ _ ⟨v24, v25, _, _, v28, v29, v30, v31, v32, v33, v34, v35, v36, v37, v38, v39, rfl, ⟨?_, ?_, ?_, ?_, ?_, ?_, ?_, ?_, ?_, ?_, ?_, ?_, ?_, ?_, ?_, ?_, ?_⟩⟩
            · exact H1.hb
            · exact fun hl => H1.h0 (by simpa using hl)
            · exact fun hl => H1.h1 (by simpa using hl)
            · exact fun hl => H1.h2 (by simpa using hl)
            · exact fun _ => rfl
            · exact fun hl => H1.h4 (by simpa using hl)
            · exact fun hl => H1.h5 (by simpa using hl)
            · exact fun hl => H1.h6 (by simpa using hl)
            · exact fun hl => H1.h7 (by simpa using hl)
            · exact fun hl => H1.h8 (by simpa using hl)
            · exact fun hl => H1.h9 (by simpa using hl)
            · exact fun hl => H1.h10 (by simpa using hl)
            · exact fun hl hs_ => H1.h11 (by simpa using hl) hs_
            · exact fun hl hs_ => H1.h12 (by simpa using hl) hs_
            · exact fun hl hs_ => H1.h13 (by simpa using hl) hs_
            · exact fun hl hs_ => H1.h14 (by simpa using hl) hs_
            · exact fun hl => H1.h15 (by simpa using hl)
          · -- operation 4
            obtain rfl := H.h1 hp.1
            obtain rfl := H.h3 hp.2
            go_simp
            refine Or.inl ?_
            have H1 := H
            refine hK _ _ ⟨v24, _, v26, _, _, v29, v30, v31, v32, v33, v34, v35, v36, v37, v38, v39, rfl, ⟨?_, ?_, ?_, ?_, ?_, ?_, ?_, ?_, ?_, ?_, ?_, ?_, ?_, ?_, ?_, ?_, ?_⟩⟩
            · exact H1.hb
            · exact fun hl => H1.h0 (by simpa using hl)
            · exact fun hl => H1.h1 (by simpa using hl)
            · exact fun hl => H1.h2 (by simpa using hl)
            · exact fun hl => H1.h3 (by simpa using hl)
            · exact fun _ => rfl
            · exact fun hl => H1.h5 (by simpa using hl)
            · exact fun hl => H1.h6 (by simpa using hl)
            · exact fun hl => H1.h7 (by simpa using hl)
            · exact fun hl => H1.h8 (by simpa using hl)
            · exact fun hl => H1.h9 (by simpa using hl)
            · exact fun hl => H1.h10 (by simpa using hl)
            · exact fun hl hs_ => H1.h11 (by simpa using hl) hs_
            · exact fun hl hs_ => H1.h12 (by simpa using hl) hs_
            · exact fun hl hs_ => H1.h13 (by simpa using hl) hs_
            · exact fun hl hs_ => H1.h14 (by simpa using hl) hs_
            · exact fun hl => H1.h15 (by simpa using hl)
          · -- operation 5
            obtain rfl := H.h4 hp
            go_simp
            refine Or.inl ?_
            have H1 := H
            refine hK _ _ ⟨v24, v25, v26, v27, _, _, v30, v31, v32, v33, v34, v35, v36, v37, v38, v39, rfl, ⟨?_, ?_, ?_, ?_, ?_, ?_, ?_, ?_, ?_, ?_, ?_, ?_, ?_, ?_, ?_, ?_, ?_⟩⟩
            · exact H1.hb
            · exact fun hl => H1.h0 (by simpa using hl)
            · exact fun hl => H1.h1 (by simpa using hl)
            · exact fun hl => H1.h2 (by simpa using hl)
            · exact fun hl => H1.h3 (by simpa using hl)
            · exact fun hl => H1.h4 (by simpa using hl)
            · exact fun _ => rfl
            · exact fun hl => H1.h6 (by simpa using hl)
            · exact fun hl => H1.h7 (by simpa using hl)
            · exact fun hl => H1.h8 (by simpa using hl)
            · exact fun hl => H1.h9 (by simpa using hl)
            · exact fun hl => H1.h10 (by simpa using hl)
            · exact fun hl hs_ => H1.h11 (by simpa using hl) hs_
            · exact fun hl hs_ => H1.h12 (by simpa using hl) hs_
            · exact fun hl hs_ => H1.h13 (by simpa using hl) hs_
            · exact fun hl hs_ => H1.h14 (by simpa using hl) hs_
            · exact fun hl => H1.h15 (by simpa using hl)
          · -- operation 6
            go_simp
            refine Or.inl ?_
            have H1 := H
            refine hK _ _ ⟨v24, v25, v26, v27, v28, v29, _, v31, v32, v33, v34, v35, v36, v37, v38, v39, rfl, ⟨?_, ?_, ?_, ?_, ?_, ?_, ?_, ?_, ?_, ?_, ?_, ?_, ?_, ?_, ?_, ?_, ?_⟩⟩
            · exact H1.hb
            · exact fun hl => H1.h0 (by simpa using hl)
            · exact fun hl => H1.h1 (by simpa using hl)
            · exact fun hl => H1.h2 (by simpa using hl)
            · exact fun hl => H1.h3 (by simpa using hl)
            · exact fun hl => H1.h4 (by simpa using hl)
            · exact fun hl => H1.h5 (by simpa using hl)
            · exact fun _ => rfl
            · exact fun hl => H1.h7 (by simpa using hl)
            · exact fun hl => H1.h8 (by simpa using hl)
            · exact fun hl => H1.h9 (by simpa using hl)
            · exact fun hl => H1.h10 (by simpa using hl)
            · exact fun hl hs_ => H1.h11 (by simpa using hl) hs_
            · exact fun hl hs_ => H1.h12 (by simpa using hl) hs_
            · exact fun hl hs_ => H1.h13 (by simpa using hl) hs_
            · exact fun hl hs_ => H1.h14 (by simpa using hl) hs_
            · exact fun hl => H1.h15 (by simpa using hl)
          · -- operation 7
            obtain rfl := H.h6 hp
            go_simp
            refine Or.inl ?_
            have H1 := H
            refine hK _ _ ⟨v24, v25, v26, v27, v28, v29, _, _, v32, v33, v34, v35, v36, v37, v38, v39, rfl, ⟨?_, ?_, ?_, ?_, ?_, ?_, ?_, ?_, ?_, ?_, ?_, ?_, ?_, ?_, ?_, ?_, ?_⟩⟩
            · exact H1.hb
            · exact fun hl => H1.h0 (by simpa using hl)
            · exact fun hl => H1.h1 (by simpa using hl)
            · exact fun hl => H1.h2 (by simpa using hl)
            · exact fun hl => H1.h3 (by simpa using hl)
            · exact fun hl => H1.h4 (by simpa using hl)
            · exact fun hl => H1.h5 (by simpa using hl)
            · exact fun hl => H1.h6 (by simpa using hl)
            · exact fun _ => rfl
            · exact fun hl => H1.h8 (by simpa using hl)
            · exact fun hl => H1.h9 (by simpa using hl)
            · exact fun hl => H1.h10 (by simpa using hl)
            · exact fun hl hs_ => H1.h11 (by simpa using hl) hs_
            · exact fun hl hs_ => H1.h12 (by simpa using hl) hs_
            · exact fun hl hs_ => H1.h13 (by simpa using hl) hs_
            · exact fun hl hs_ => H1.h14 (by simpa using hl) hs_
            · exact fun hl => H1.h15 (by simpa using hl)
          · -- operation 8
            obtain rfl := H.h5 hp.1
            obtain rfl := H.h7 hp.2
            go_simp
            refine Or.inl ?_
            have H1 := H
            refine hK _ _ ⟨v24, v25, v26, v27, v28, _, v30, _, _, v33, v34, v35, v36, v37, v38, v39, rfl, ⟨?_, ?_, ?_, ?_, ?_, ?_, ?_, ?_, ?_, ?_, ?_, ?_, ?_, ?_, ?_, ?_, ?_⟩⟩
            · exact H1.hb
            · exact fun hl => H1.h0 (by simpa using hl)
            · exact fun hl => H1.h1 (by simpa using hl)
            · exact fun hl => H1.h2 (by simpa using hl)
            · exact fun hl => H1.h3 (by simpa using hl)
            · exact fun hl => H1.h4 (by simpa using hl)
            · exact fun hl => H1.h5 (by simpa using hl)
            · exact fun hl => H1.h6 (by simpa using hl)
            · exact fun hl => H1.h7 (by simpa using hl)
            · exact fun _ => rfl
            · exact fun hl => H1.h9 (by simpa using hl)
            · exact fun hl => H1.h10 (by simpa using hl)
            · exact fun hl hs_ => H1.h11 (by simpa using hl) hs_
            · exact fun hl hs_ => H1.h12 (by simpa using hl) hs_
            · exact fun hl hs_ => H1.h13 (by simpa using hl) hs_
            · exact fun hl hs_ => H1.h14 (by simpa using hl) hs_
            · exact fun hl => H1.h15 (by simpa using hl)
          · -- operation 9
            obtain rfl := H.h0 hp.1
            obtain rfl := H.h8 hp.2
            go_simp
            refine Or.inl ?_
            have H1 := H
            refine hK _ _ ⟨_, v25, v26, v27, v28, v29, v30, v31, _, _, v34, v35, v36, v37, v38, v39, rfl, ⟨?_, ?_, ?_, ?_, ?_, ?_, ?_, ?_, ?_, ?_, ?_, ?_, ?_, ?_, ?_, ?_, ?_⟩⟩
            · exact H1.hb
            · exact fun hl => H1.h0 (by simpa using hl)
            · exact fun hl => H1.h1 (by simpa using hl)
            · exact fun hl => H1.h2 (by simpa using hl)
            · exact fun hl => H1.h3 (by simpa using hl)
            · exact fun hl => H1.h4 (by simpa using hl)
            · exact fun hl => H1.h5 (by simpa using hl)
            · exact fun hl => H1.h6 (by simpa using hl)
            · exact fun hl => H1.h7 (by simpa using hl)
            · exact fun hl => H1.h8 (by simpa using hl)
            · exact fun _ => rfl
            · exact fun hl => H1.h10 (by simpa using hl)
            · exact fun hl hs_ => H1.h11 (by simpa using hl) hs_
            · exact fun hl hs_ => H1.h12 (by simpa using hl) hs_
            · exact fun hl hs_ => H1.h13 (by simpa using hl) hs_
            · exact fun hl hs_ => H1.h14 (by simpa using hl) hs_
            · exact fun hl => H1.h15 (by simpa using hl)
          · -- operation 10
            obtain rfl := H.h9 hp
            go_simp
            refine Or.inl ?_
            have H1 := H
            refine hK _ _ ⟨v24, v25, v26, v27, v28, v29, v30, v31, v32, _, _, v35, v36, v37, v38, v39, rfl, ⟨?_, ?_, ?_, ?_, ?_, ?_, ?_, ?_, ?_, ?_, ?_, ?_, ?_, ?_, ?_, ?_, ?_⟩⟩
            · exact H1.hb
            · exact fun hl => H1.h0 (by simpa using hl)
            · exact fun hl => H1.h1 (by simpa using hl)
            · exact fun hl => H1.h2 (by simpa using hl)
            · exact fun hl => H1.h3 (by simpa using hl)
            · exact fun hl => H1.h4 (by simpa using hl)
            · exact fun hl => H1.h5 (by simpa using hl)
            · exact fun hl => H1.h6 (by simpa using hl)
            · exact fun hl => H1.h7 (by simpa using hl)
            · exact fun hl => H1.h8 (by simpa using hl)
            · exact fun hl => H1.h9 (by simpa using hl)
            · exact fun _ => rfl
            · exact fun hl hs_ => H1.h11 (by simpa using hl) hs_
            · exact fun hl hs_ => H1.h12 (by simpa using hl) hs_
            · exact fun hl hs_ => H1.h13 (by simpa using hl) hs_
            · exact fun hl hs_ => H1.h14 (by simpa using hl) hs_
            · exact fun hl => H1.h15 (by simpa using hl)
          · -- operation 11
            obtain rfl := H.h10 hp
            cases sp with
            | false =>
              refine (if_neg (by exact fun hw => Bool.false_ne_true hw)).mpr ?_
              have H1 := H
              refine hK _ _ ⟨v24, v25, v26, v27, v28, v29, v30, v31, v32, v33, _, _, v36, v37, v38, v39, rfl, ⟨?_, ?_, ?_, ?_, ?_, ?_, ?_, ?_, ?_, ?_, ?_, ?_, ?_, ?_, ?_, ?_, ?_⟩⟩
              · exact H1.hb
              · exact fun hl => H1.h0 (by simpa using hl)
              · exact fun hl => H1.h1 (by simpa using hl)
              · exact fun hl => H1.h2 (by simpa using hl)
              · exact fun hl => H1.h3 (by simpa using hl)
              · exact fun hl => H1.h4 (by simpa using hl)
              · exact fun hl => H1.h5 (by simpa using hl)
              · exact fun hl => H1.h6 (by simpa using hl)
              · exact fun hl => H1.h7 (by simpa using hl)
              · exact fun hl => H1.h8 (by simpa using hl)
              · exact fun hl => H1.h9 (by simpa using hl)
              · exact fun hl => H1.h10 (by simpa using hl)
              · exact fun _ hs_ => by cases hs_
              · exact fun hl hs_ => H1.h12 (by simpa using hl) hs_
              · exact fun hl hs_ => H1.h13 (by simpa using hl) hs_
              · exact fun hl hs_ => H1.h14 (by simpa using hl) hs_
              · exact fun hl => H1.h15 (by simpa using hl)
            | true =>
              refine (if_pos (by exact rfl)).mpr ?_
              refine Or.inl ?_
              go_simp
              have H1 := H
              refine hK _ _ ⟨v24, v25, v26, v27, v28, v29, v30, v31, v32, v33, _, _, v36, v37, v38, v39, rfl, ⟨?_, ?_, ?_, ?_, ?_, ?_, ?_, ?_, ?_, ?_, ?_, ?_, ?_, ?_, ?_, ?_, ?_⟩⟩
              · exact H1.hb
              · exact fun hl => H1.h0 (by simpa using hl)
              · exact fun hl => H1.h1 (by simpa using hl)
              · exact fun hl => H1.h2 (by simpa using hl)
              · exact fun hl => H1.h3 (by simpa using hl)
              · exact fun hl => H1.h4 (by simpa using hl)
              · exact fun hl => H1.h5 (by simpa using hl)
              · exact fun hl => H1.h6 (by simpa using hl)
              · exact fun hl => H1.h7 (by simpa using hl)
              · exact fun hl => H1.h8 (by simpa using hl)
              · exact fun hl => H1.h9 (by simpa using hl)
              · exact fun hl => H1.h10 (by simpa using hl)
              · exact fun _ _ => rfl
              · exact fun hl hs_ => H1.h12 (by simpa using hl) hs_
              · exact fun hl hs_ => H1.h13 (by simpa using hl) hs_
              · exact fun hl hs_ => H1.h14 (by simpa using hl) hs_
              · exact fun hl => H1.h15 (by simpa using hl)
          · -- operation 12
            obtain rfl := H.h10 hp
            cases sp with
            | false =>
              refine (if_neg (by exact fun hw => Bool.false_ne_true hw)).mpr ?_
              have H1 := H
              refine hK _ _ ⟨v24, v25, v26, v27, v28, v29, v30, v31, v32, v33, _, v35, _, v37, v38, v39, rfl, ⟨?_, ?_, ?_, ?_, ?_, ?_, ?_, ?_, ?_, ?_, ?_, ?_, ?_, ?_, ?_, ?_, ?_⟩⟩
              · exact H1.hb
              · exact fun hl => H1.h0 (by simpa using hl)
              · exact fun hl => H1.h1 (by simpa using hl)
              · exact fun hl => H1.h2 (by simpa using hl)
              · exact fun hl => H1.h3 (by simpa using hl)
              · exact fun hl => H1.h4 (by simpa using hl)
              · exact fun hl => H1.h5 (by simpa using hl)
              · exact fun hl => H1.h6 (by simpa using hl)
              · exact fun hl => H1.h7 (by simpa using hl)
              · exact fun hl => H1.h8 (by simpa using hl)
              · exact fun hl => H1.h9 (by simpa using hl)
              · exact fun hl => H1.h10 (by simpa using hl)
              · exact fun hl hs_ => H1.h11 (by simpa using hl) hs_
              · exact fun _ hs_ => by cases hs_
              · exact fun hl hs_ => H1.h13 (by simpa using hl) hs_
              · exact fun hl hs_ => H1.h14 (by simpa using hl) hs_
              · exact fun hl => H1.h15 (by simpa using hl)
            | true =>
              refine (if_pos (by exact rfl)).mpr ?_
              refine Or.inl ?_
              go_simp
              have H1 := H
              refine hK _ _ ⟨v24, v25, v26, v27, v28, v29, v30, v31, v32, v33, _, v35, _, v37, v38, v39, rfl, ⟨?_, ?_, ?_, ?_, ?_, ?_, ?_, ?_, ?_, ?_, ?_, ?_, ?_, ?_, ?_, ?_, ?_⟩⟩
              · exact H1.hb
              · exact fun hl => H1.h0 (by simpa using hl)
              · exact fun hl => H1.h1 (by simpa using hl)
              · exact fun hl => H1.h2 (by simpa using hl)
              · exact fun hl => H1.h3 (by simpa using hl)
              · exact fun hl => H1.h4 (by simpa using hl)
              · exact fun hl => H1.h5 (by simpa using hl)
              · exact fun hl => H1.h6 (by simpa using hl)
              · exact fun hl => H1.h7 (by simpa using hl)
              · exact fun hl => H1.h8 (by simpa using hl)
              · exact fun hl => H1.h9 (by simpa using hl)
              · exact fun hl => H1.h10 (by simpa using hl)
              · exact fun hl hs_ => H1.h11 (by simpa using hl) hs_
              · exact fun _ _ => rfl
              · exact fun hl hs_ => H1.h13 (by simpa using hl) hs_
              · exact fun hl hs_ => H1.h14 (by simpa using hl) hs_
              · exact fun hl => H1.h15 (by simpa using hl)
          · -- operation 13
            obtain rfl := H.h10 hp.2.2
            cases sp with
            | false =>
              refine (if_neg (by exact fun hw => Bool.false_ne_true hw)).mpr ?_
              have H1 := H
              refine hK _ _ ⟨v24, v25, v26, v27, v28, v29, v30, v31, v32, v33, _, _, _, _, v38, v39, rfl, ⟨?_, ?_, ?_, ?_, ?_, ?_, ?_, ?_, ?_, ?_, ?_, ?_, ?_, ?_, ?_, ?_, ?_⟩⟩
              · exact H1.hb
              · exact fun hl => H1.h0 (by simpa using hl)
              · exact fun hl => H1.h1 (by simpa using hl)
              · exact fun hl => H1.h2 (by simpa using hl)
              · exact fun hl => H1.h3 (by simpa using hl)
              · exact fun hl => H1.h4 (by simpa using hl)
              · exact fun hl => H1.h5 (by simpa using hl)
              · exact fun hl => H1.h6 (by simpa using hl)
              · exact fun hl => H1.h7 (by simpa using hl)
              · exact fun hl => H1.h8 (by simpa using hl)
              · exact fun hl => H1.h9 (by simpa using hl)
              · exact fun hl => H1.h10 (by simpa using hl)
              · exact fun hl hs_ => H1.h11 (by simpa using hl) hs_
              · exact fun hl hs_ => H1.h12 (by simpa using hl) hs_
              · exact fun _ hs_ => by cases hs_
              · exact fun hl hs_ => H1.h14 (by simpa using hl) hs_
              · exact fun hl => H1.h15 (by simpa using hl)
            | true =>
              refine (if_pos (by exact rfl)).mpr ?_
              obtain rfl := H.h11 hp.1 rfl
              obtain rfl := H.h12 hp.2.1 rfl
              refine Or.inl ?_
              go_simp
              refine (slices_Contains_int_int.calls 1000 A c l i hs Wc (Kd.C_below HCi.out H.hb) HC.out HHS.out).mono ?_
              rintro e w' ⟨rfl, ⟨nd, rfl⟩⟩
              have H1 := H
              have hb2 := pw_below_drewN H.hb nd
              refine hK _ _ ⟨v24, v25, v26, v27, v28, v29, v30, v31, v32, v33, _, _, _, _, v38, v39, rfl, ⟨?_, ?_, ?_, ?_, ?_, ?_, ?_, ?_, ?_, ?_, ?_, ?_, ?_, ?_, ?_, ?_, ?_⟩⟩
              · exact hb2
              · exact fun hl => H1.h0 (by simpa using hl)
              · exact fun hl => H1.h1 (by simpa using hl)
              · exact fun hl => H1.h2 (by simpa using hl)
              · exact fun hl => H1.h3 (by simpa using hl)
              · exact fun hl => H1.h4 (by simpa using hl)
              · exact fun hl => H1.h5 (by simpa using hl)
              · exact fun hl => H1.h6 (by simpa using hl)
              · exact fun hl => H1.h7 (by simpa using hl)
              · exact fun hl => H1.h8 (by simpa using hl)
              · exact fun hl => H1.h9 (by simpa using hl)
              · exact fun hl => H1.h10 (by simpa using hl)
              · exact fun hl hs_ => H1.h11 (by simpa using hl) hs_
              · exact fun hl hs_ => H1.h12 (by simpa using hl) hs_
              · exact fun _ _ => rfl
              · exact fun hl hs_ => H1.h14 (by simpa using hl) hs_
              · exact fun hl => H1.h15 (by simpa using hl)
          · -- operation 14
            obtain rfl := H.h10 hp.2
            cases sp with
            | false =>
              refine (if_neg (by exact fun hw => Bool.false_ne_true hw)).mpr ?_
              have H1 := H
              refine hK _ _ ⟨v24, v25, v26, v27, v28, v29, v30, v31, v32, v33, _, v35, v36, _, _, v39, rfl, ⟨?_, ?_, ?_, ?_, ?_, ?_, ?_, ?_, ?_, ?_, ?_, ?_, ?_, ?_, ?_, ?_, ?_⟩⟩
              · exact H1.hb
              · exact fun hl => H1.h0 (by simpa using hl)
              · exact fun hl => H1.h1 (by simpa using hl)
              · exact fun hl => H1.h2 (by simpa using hl)
              · exact fun hl => H1.h3 (by simpa using hl)
              · exact fun hl => H1.h4 (by simpa using hl)
              · exact fun hl => H1.h5 (by simpa using hl)
              · exact fun hl => H1.h6 (by simpa using hl)
              · exact fun hl => H1.h7 (by simpa using hl)
              · exact fun hl => H1.h8 (by simpa using hl)
              · exact fun hl => H1.h9 (by simpa using hl)
              · exact fun hl => H1.h10 (by simpa using hl)
              · exact fun hl hs_ => H1.h11 (by simpa using hl) hs_
              · exact fun hl hs_ => H1.h12 (by simpa using hl) hs_
              · exact fun hl hs_ => H1.h13 (by simpa using hl) hs_
              · exact fun _ hs_ => by cases hs_
              · exact fun hl => H1.h15 (by simpa using hl)
            | true =>
              refine (if_pos (by exact rfl)).mpr ?_
              obtain rfl := H.h13 hp.1 rfl
              refine Or.inl ?_
              go_simp
              have H1 := H
              refine hK _ _ ⟨v24, v25, v26, v27, v28, v29, v30, v31, v32, v33, _, v35, v36, _, _, v39, rfl, ⟨?_, ?_, ?_, ?_, ?_, ?_, ?_, ?_, ?_, ?_, ?_, ?_, ?_, ?_, ?_, ?_, ?_⟩⟩
              · exact H1.hb
              · exact fun hl => H1.h0 (by simpa using hl)
              · exact fun hl => H1.h1 (by simpa using hl)
              · exact fun hl => H1.h2 (by simpa using hl)
              · exact fun hl => H1.h3 (by simpa using hl)
              · exact fun hl => H1.h4 (by simpa using hl)
              · exact fun hl => H1.h5 (by simpa using hl)
              · exact fun hl => H1.h6 (by simpa using hl)
              · exact fun hl => H1.h7 (by simpa using hl)
              · exact fun hl => H1.h8 (by simpa using hl)
              · exact fun hl => H1.h9 (by simpa using hl)
              · exact fun hl => H1.h10 (by simpa using hl)
              · exact fun hl hs_ => H1.h11 (by simpa using hl) hs_
              · exact fun hl hs_ => H1.h12 (by simpa using hl) hs_
              · exact fun hl hs_ => H1.h13 (by simpa using hl) hs_
              · exact fun _ _ => rfl
              · exact fun hl => H1.h15 (by simpa using hl)
          · -- operation 15
            obtain rfl := H.h10 hp.1
            cases sp with
            | false =>
              go_simp
              refine Or.inl ?_
              have H1 := H
              refine hK _ _ ⟨v24, v25, v26, v27, v28, v29, v30, v31, v32, v33, _, v35, v36, v37, v38, _, rfl, ⟨?_, ?_, ?_, ?_, ?_, ?_, ?_, ?_, ?_, ?_, ?_, ?_, ?_, ?_, ?_, ?_, ?_⟩⟩
              · exact H1.hb
              · exact fun hl => H1.h0 (by simpa using hl)
              · exact fun hl => H1.h1 (by simpa using hl)
              · exact fun hl => H1.h2 (by simpa using hl)
              · exact fun hl => H1.h3 (by simpa using hl)
              · exact fun hl => H1.h4 (by simpa using hl)
              · exact fun hl => H1.h5 (by simpa using hl)
              · exact fun hl => H1.h6 (by simpa using hl)
              · exact fun hl => H1.h7 (by simpa using hl)
              · exact fun hl => H1.h8 (by simpa using hl)
              · exact fun hl => H1.h9 (by simpa using hl)
              · exact fun hl => H1.h10 (by simpa using hl)
              · exact fun hl hs_ => H1.h11 (by simpa using hl) hs_
              · exact fun hl hs_ => H1.h12 (by simpa using hl) hs_
              · exact fun hl hs_ => H1.h13 (by simpa using hl) hs_
              · exact fun hl hs_ => H1.h14 (by simpa using hl) hs_
              · exact fun _ => rfl
            | true =>
              obtain rfl := H.h14 hp.2 rfl
              go_simp
              refine Or.inl ?_
              have H1 := H
              refine hK _ _ ⟨v24, v25, v26, v27, v28, v29, v30, v31, v32, v33, _, v35, v36, v37, _, _, rfl, ⟨?_, ?_, ?_, ?_, ?_, ?_, ?_, ?_, ?_, ?_, ?_, ?_, ?_, ?_, ?_, ?_, ?_⟩⟩
              · exact H1.hb
              · exact fun hl => H1.h0 (by simpa using hl)
              · exact fun hl => H1.h1 (by simpa using hl)
              · exact fun hl => H1.h2 (by simpa using hl)
              · exact fun hl => H1.h3 (by simpa using hl)
              · exact fun hl => H1.h4 (by simpa using hl)
              · exact fun hl => H1.h5 (by simpa using hl)
              · exact fun hl => H1.h6 (by simpa using hl)
              · exact fun hl => H1.h7 (by simpa using hl)
              · exact fun hl => H1.h8 (by simpa using hl)
              · exact fun hl => H1.h9 (by simpa using hl)
              · exact fun hl => H1.h10 (by simpa using hl)
              · exact fun hl hs_ => H1.h11 (by simpa using hl) hs_
              · exact fun hl hs_ => H1.h12 (by simpa using hl) hs_
              · exact fun hl hs_ => H1.h13 (by simpa using hl) hs_
              · exact fun hl hs_ => H1.h14 (by simpa using hl) hs_
              · exact fun _ => rfl
theorem impl_CountCoverings.fx0 {w0 w : World} {Bm : Nat} {vg vp : Value} {r : Int} (hb : Below w0.heap.size w0 w) (hm : Boxed w Bm 3 (.int .i64 0)) (hbb : w0.heap.size ≤ Bm) : impl_CountCoverings.Fx w0 w.heap.size (w.heap.size + 1 + 1 + 1) (w.heap.size + 1) (w.heap.size + 1 + 1) (w.heap.size + 1 + 1 + 1 + 1) Bm vg vp r (((((w.alloc (.cells #[vg] 22)).alloc (.cells #[vp] 22)).alloc (.cells #[.int .i64 r] 3)).alloc (.cells #[(.func (.func 24) #[] #[.pointer (some ⟨Bm, 0, none⟩)])] 39)).alloc (.cells #[(.func (.func 35) #[] #[.pointer (some ⟨w.heap.size, 0, none⟩), .pointer (some ⟨w.heap.size + 1 + 1 + 1, 0, none⟩), .pointer (some ⟨w.heap.size + 1, 0, none⟩), .pointer (some ⟨w.heap.size + 1 + 1, 0, none⟩), .pointer (some ⟨w.heap.size + 1 + 1 + 1 + 1, 0, none⟩)])] 39)) 0 := by
  have hs := below_size hb
  have hlt := hm.lt
  obtain ⟨W1, h1⟩ : ∃ W1, w.alloc (.cells #[vg] 22) = W1 := ⟨_, rfl⟩
  obtain ⟨W2, h2⟩ : ∃ W2, W1.alloc (.cells #[vp] 22) = W2 := ⟨_, rfl⟩
  obtain ⟨W3, h3⟩ : ∃ W3, W2.alloc (.cells #[.int .i64 r] 3) = W3 := ⟨_, rfl⟩
  obtain ⟨W4, h4⟩ : ∃ W4, W3.alloc (.cells #[(.func (.func 24) #[] #[.pointer (some ⟨Bm, 0, none⟩)])] 39) = W4 := ⟨_, rfl⟩
  have n1 : W1.heap.size = w.heap.size + 1 := by rw [← h1]; simp
  have n2 : W2.heap.size = w.heap.size + 1 + 1 := by rw [← h2]; simp [n1]
  have n3 : W3.heap.size = w.heap.size + 1 + 1 + 1 := by rw [← h3]; simp [n2]
  have n4 : W4.heap.size = w.heap.size + 1 + 1 + 1 + 1 := by rw [← h4]; simp [n3]
  have b1 := Boxed.new w 22 vg
  have b2 := Boxed.new W1 22 vp
  have b3 := Boxed.new W2 3 (.int .i64 r)
  have b4 := Boxed.new W3 39 (.func (.func 24) #[] #[.pointer (some ⟨Bm, 0, none⟩)])
  rw [h1] at b1
  rw [h2, n1] at b2
  rw [h3, n2] at b3
  rw [h4, n3] at b4
  rw [h1, h2, h3, h4]
  have b5 := fun v => Boxed.new W4 39 v
  rw [n4] at b5
  have bm1 : Boxed W4 Bm 3 (.int .i64 0) := by rw [← h4, ← h3, ← h2, ← h1]; exact (((hm.alloc _).alloc _).alloc _).alloc _
  have bb1 : Below w0.heap.size w0 W4 := by
    rw [← h4, ← h3, ← h2, ← h1]
    exact (((hb.alloc hs _).alloc (by rw [h1]; omega) _).alloc (by rw [h1, h2]; omega) _).alloc (by rw [h1, h2, h3]; omega) _
  refine ⟨bb1.alloc (by omega) _, ?_, b4.alloc _, ?_, ?_, b5 _, bm1.alloc _, by omega, hbb⟩
  · refine Boxed.alloc ?_ _
    rw [← h4]; refine Boxed.alloc ?_ _
    rw [← h3]; refine Boxed.alloc ?_ _
    rw [← h2]; exact b1.alloc _
  · refine Boxed.alloc ?_ _
    rw [← h4]; refine Boxed.alloc ?_ _
    rw [← h3]; exact b2.alloc _
  · refine Boxed.alloc ?_ _
    rw [← h4]; exact b3.alloc _
set_option maxHeartbeats 8000000 in
set_option maxRecDepth 100000 in
theorem impl_CountCoverings.covers (g p : List Int) (r : Int) (hB : covB g p r) (w0 w : World) (Ag Ap : Option Addr) (cg cp : Nat) (hg : Kd.C (Kd.int .i64) w0 Ag g.length g) (hp : Kd.C (Kd.int .i64) w0 Ap p.length p) (Bm : Nat) (hb : Below w0.heap.size w0 w) (hm : Boxed w Bm 3 (.int .i64 0)) (hbb : w0.heap.size ≤ Bm) :
    Calls Try.prog 23 #[.slice Ag g.length cg, .slice Ap p.length cp, .int .i64 r, (.func (.func 24) #[] #[.pointer (some ⟨Bm, 0, none⟩)])] w fun e w' => e = .returned (.tuple #[]) ∧ Boxed w' Bm 3 (.int .i64 (cov g p r g.length [] 0)) ∧ Below w0.heap.size w0 w' := by
  have HBN := Aside0.mk hB
  have HG := Aside0.mk hg
  have HP := Aside0.mk hp
  have HX := Aside0.mk (impl_CountCoverings.fx0 (vg := .slice Ag g.length cg) (vp := .slice Ap p.length cp) (r := r) hb hm hbb)
  have HPW := Aside0.mk (cov_pow hB.1.2)
  clear hB hg hp hb hm
  go_enter Try.func23, Try.ntmps23
  go_wp2_with (go_at_call 35; (refine (impl_CountCoverings.choose g p r HBN.out w0 Ag Ap cg cp HG.out HP.out _ _ _ _ _ Bm g.length [] 0 _ _ (by simp) (by omega) (by have := HPW.out; omega) (World.ownsRow_nil _ _ _ _) (by simp [Value.ownBlock]) HX.out).mono ?_); rintro e w9 ⟨rfl, hF9, hg9⟩; have HF9 := Aside0.mk hF9; clear hF9 hg9)
  go_end0
  exact ⟨rfl, HF9.out.cm, HF9.out.b0⟩
def impl_CountCoverings.f (l0 l1 : List Int) (a2 : Int) : Option (Int × Bool) := (impl_areSpanned.f l0 l1 a2).bind fun t => if t = true then (if covB l0 l1 a2 then some (cov l0 l1 a2 l0.length [] 0, true) else none) else some (0, false)
set_option maxHeartbeats 8000000 in
set_option maxRecDepth 100000 in
theorem impl_CountCoverings.calls (A0 : Option Addr) (c0 : Nat) (l0 : List Int) (A1 : Option Addr) (c1 : Nat) (l1 : List Int) (a2 : Int) (r1 : Int) (r2 : Bool) (w : World) (hr0 : Kd.C (Kd.int .i64) w A0 l0.length l0) (hc0 : l0.length ≤ c0) (hr1 : Kd.C (Kd.int .i64) w A1 l1.length l1) (hc1 : l1.length ≤ c1) (h : impl_CountCoverings.f l0 l1 a2 = some (r1, r2)) :
    Calls Try.prog 11 #[.slice A0 l0.length c0, .slice A1 l1.length c1, .int .i64 a2] w fun e w' => e = .returned (.tuple #[.int .i64 r1, .bool r2]) ∧ Below w.heap.size w w' := by
  have HR0 := Aside0.mk hr0
  have HR1 := Aside0.mk hr1
  have HC0 := Aside0.mk hc0
  have HC1 := Aside0.mk hc1
  clear hr0 hr1 hc0 hc1
  obtain ⟨t, ht, h⟩ := Option.bind_eq_some_iff.mp h
  have HT := Aside0.mk ht
  clear ht
  cases t with
  | false =>
    simp only [Bool.false_eq_true, if_false, Option.some.injEq, Prod.mk.injEq] at h
    obtain ⟨rfl, rfl⟩ := h
    go_enter Try.func11, Try.ntmps11
    go_wp2_with (go_at_call 22; (refine (impl_areSpanned.calls _ _ l0 _ _ l1 a2 false _ HR0.out HC0.out HR1.out HC1.out HT.out).mono ?_); rintro e w3 ⟨rfl, hb3⟩; have HB3 := Aside0.mk hb3; clear hb3)
    go_ret2
    exact ⟨rfl, HB3.out⟩
  | true =>
    simp only [if_true] at h
    by_cases hB : covB l0 l1 a2
    case neg => rw [if_neg hB] at h; cases h
    rw [if_pos hB] at h
    simp only [Option.some.injEq, Prod.mk.injEq] at h
    obtain ⟨h1, rfl⟩ := h
    have HB := Aside0.mk hB
    have HE := Aside0.mk h1
    clear hB h1
    go_enter Try.func11, Try.ntmps11
    go_wp2_with (first | (go_at_call 22; (refine (impl_areSpanned.calls _ _ l0 _ _ l1 a2 true _ HR0.out HC0.out HR1.out HC1.out HT.out).mono ?_); rintro e w3 ⟨rfl, hb3⟩; have HB3 := Aside0.mk hb3; clear hb3) | (go_at_call 23; (refine (impl_CountCoverings.covers l0 l1 a2 HB.out w _ _ _ _ _ HR0.out HR1.out w3.heap.size (HB3.out.alloc HB3.out.size _) (Boxed.new _ _ _) HB3.out.size).mono ?_); rintro e w4 ⟨rfl, hm4, hb4⟩; have HB4 := Aside0.mk hb4; have q1 := hm4.cell; clear hm4 hb4))
    go_ret2
    exact ⟨by rw [← HE.out]; rfl, HB4.out⟩

end Go.Proofs.Ytjkhpdfphphnfaa.PFnExactCountCoverings
