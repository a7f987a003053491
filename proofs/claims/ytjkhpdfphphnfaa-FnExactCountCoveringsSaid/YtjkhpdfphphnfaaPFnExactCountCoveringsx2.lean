-- Printed by this session's eprint.py over the kit's print (with this session's own texts for some functions)
import Derived.Test.YtjkhpdfphphnfaaPFnExactCountCoveringsx0
import Derived.Test.YtjkhpdfphphnfaaPFnExactCountCoveringsx1
namespace Go.Proofs.Ytjkhpdfphphnfaa.PFnExactCountCoverings
open Go.RowKit Go.Proofs.YtjkhpdfphphnfaaW.PrintWords Go.Proofs.YtjkhpdfphphnfaaW.PrintLast Go.Proofs.YtjkhpdfphphnfaaW.PrintMore
attribute [local go_sem] max2_int min2_int max_two min_two max_three min_three max_four min_four   -- for this text's walks alone
set_option linter.unusedVariables false
set_option linter.unusedSimpArgs false

/-! ### spec_l1Has: function 39 -/
def spec_l1Has.l0 : Nat → Int → List Int → Int → Int → Option (Bool)
  | 0, _, _, _, _ => none
  | k + 1, x1, x7, x8, x9 => if x9 < x8 then (if 0 ≤ x9 then (if x9 < (x7.length : Int) then (if (rd x7 x9) = x1 then (some true) else (spec_l1Has.l0 k x1 x7 x8 (wrap64 (x9 + 1)))) else (none)) else (none)) else (some false)
def spec_l1Has.f (k : Nat) (l0 : List Int) (a1 : Int) : Option (Bool) := spec_l1Has.l0 k a1 l0 (l0.length : Int) 0
theorem spec_l1Has.mono_l : ∀ k, (∀ y0 y1 y2 y3, LeO (spec_l1Has.l0 k y0 y1 y2 y3) (spec_l1Has.l0 (k + 1) y0 y1 y2 y3))
  | 0 => fun _ _ _ _ r h => by simp [spec_l1Has.l0] at h
  | k + 1 => by
    have ih0 := spec_l1Has.mono_l k
    · intro y0 y1 y2 y3
      unfold spec_l1Has.l0
      repeat' first
      | (with_reducible exact ih0 _ _ _ _)
      | (with_reducible exact LeO.refl _)
      | (with_reducible exact LeO.none _)
      | (with_reducible refine LeO.ite ?_ ?_)
      | (with_reducible refine LeO.bind ?_ (fun _ => ?_))
      | exact ih0 _ _ _ _
      | exact LeO.none _
      | refine LeO.ite ?_ ?_
      | refine LeO.bind ?_ (fun _ => ?_)
theorem spec_l1Has.mono : ∀ a0 a1 k, LeO (spec_l1Has.f k a0 a1) (spec_l1Has.f (k + 1) a0 a1) := by
  intro a0 a1 k
  have ih0 := spec_l1Has.mono_l k
  unfold spec_l1Has.f
  repeat' first
      | (with_reducible exact ih0 _ _ _ _)
      | (with_reducible exact LeO.refl _)
      | (with_reducible exact LeO.none _)
      | (with_reducible refine LeO.ite ?_ ?_)
      | (with_reducible refine LeO.bind ?_ (fun _ => ?_))
      | exact ih0 _ _ _ _
      | exact LeO.none _
      | refine LeO.ite ?_ ?_
      | refine LeO.bind ?_ (fun _ => ?_)
set_option maxHeartbeats 8000000 in
set_option maxRecDepth 100000 in
theorem spec_l1Has.calls (k : Nat) (A0 : Option Addr) (c0 : Nat) (l0 : List Int) (a1 : Int) (r : Bool) (w : World) (hr0 : Kd.C (Kd.int .i64) w A0 l0.length l0) (hc0 : l0.length ≤ c0) (h : spec_l1Has.f k l0 a1 = some r) :
    Calls Try.prog 39 #[.slice A0 l0.length c0, .int .i64 a1] w fun e w' => e = .returned (.bool r) ∧ Drawn0 w w' := by
  have HR0 := Aside0.mk hr0
  have HC0 := Aside0.mk hc0
  clear hr0 hc0
  have H : (spec_l1Has.l0 k a1 l0 (l0.length : Int) 0) = some r := h
  clear h
  have H' := Aside0.mk H
  clear H
  go_enter Try.func39, Try.ntmps39
  go_wp2
  go_loopg [9] k (fun kq v9 w' => ∃ (x9_1 : Int), v9 = .int .i64 x9_1 ∧ Aside0 (spec_l1Has.l0 kq a1 l0 (l0.length : Int) x9_1 = some r) ∧ Aside0 (kq ≤ k) ∧ Drawn0 w w')
  case atStart => exact ⟨(0), (by first | rfl | (simp; done) | (simp [*]; done)), H', ⟨Nat.le_refl _⟩, by repeat (first | exact Drawn0.refl _ | apply Drawn0.step)⟩
  case round =>
    clear H'
    try clear p2
    obtain ⟨x9_1, rfl, HA, HK1, ⟨m1, rfl⟩⟩ := hrel
    cases gk with
    | zero => exact absurd HA.out (by simp [spec_l1Has.l0])
    | succ k1 =>
      have H := HA.out
      clear HA
      simp only [spec_l1Has.l0] at H
      by_cases c3 : x9_1 < (l0.length : Int)
      · rw [if_pos c3] at H
        have c3b0 : decide (x9_1 < (l0.length : Int)) = true := decide_eq_true c3
        clear c3
        by_cases c4 : 0 ≤ x9_1
        · rw [if_pos c4] at H
          have c4b0 : decide (0 ≤ x9_1) = true := decide_eq_true c4
          clear c4
          by_cases c5 : x9_1 < (l0.length : Int)
          · rw [if_pos c5] at H
            have c5b0 : decide (x9_1 < (l0.length : Int)) = true := decide_eq_true c5
            clear c5
            by_cases c6 : (rd l0 x9_1) = a1
            · rw [if_pos c6] at H
              have c6b0 : ((rd l0 x9_1) == a1) = true := beq_iff_eq.mpr c6
              have c6b1 : ((rd l0 x9_1) != a1) = false := bne_eq_false_iff_eq.mpr c6
              clear c6
              obtain rfl := Option.some.inj H
              have p118 : 0 ≤ (x9_1 : Int) := of_decide_eq_true (by first | (with_reducible assumption) | assumption)
              have q118 : x9_1 < (l0.length : Int) := of_decide_eq_true (by first | (with_reducible assumption) | assumption)
              obtain ⟨ad118, e118, hx118_0⟩ := Kd.at_int HR0.out x9_1 p118 q118
              cases e118
              replace p118 := eq_true p118
              replace q118 := eq_true q118
              go_wp2
              go_ret
              exact ⟨by first | rfl | (simp; done) | (simp [*]; done), by repeat (first | exact Drawn0.refl _ | apply Drawn0.step)⟩
            · rw [if_neg c6] at H
              have c6b0 : ((rd l0 x9_1) == a1) = false := beq_eq_false_iff_ne.mpr c6
              have c6b1 : ((rd l0 x9_1) != a1) = true := bne_iff_ne.mpr c6
              have H' := Aside0.mk H
              clear H
              have p118 : 0 ≤ (x9_1 : Int) := of_decide_eq_true (by first | (with_reducible assumption) | assumption)
              have q118 : x9_1 < (l0.length : Int) := of_decide_eq_true (by first | (with_reducible assumption) | assumption)
              obtain ⟨ad118, e118, hx118_0⟩ := Kd.at_int HR0.out x9_1 p118 q118
              cases e118
              replace p118 := eq_true p118
              replace q118 := eq_true q118
              go_wp2
              go_roundg k1
              case measure => have := HK1.out; omega
              case rel => exact ⟨(wrap64 (x9_1 + 1)), (by first | rfl | (simp; done) | (simp [*]; done)), H', ⟨by have := HK1.out; omega⟩, by repeat (first | exact Drawn0.refl _ | apply Drawn0.step)⟩
          · rw [if_neg c5] at H
            exact absurd H (by simp)
        · rw [if_neg c4] at H
          exact absurd H (by simp)
      · rw [if_neg c3] at H
        have c3b0 : decide (x9_1 < (l0.length : Int)) = false := decide_eq_false c3
        clear c3
        obtain rfl := Option.some.inj H
        go_wp2
        go_ret
        exact ⟨by first | rfl | (simp; done) | (simp [*]; done), by repeat (first | exact Drawn0.refl _ | apply Drawn0.step)⟩

/-! ### spec_l1Own: function 40 -/
def spec_l1Own.f (l0 : List Int) : Option (List Int) := (some (([] : List Int) : List Int)).bind fun y119 => (if y119.length + l0.length < 17592186044416 then (some (y119 ++ l0)) else (none))
set_option maxHeartbeats 8000000 in
set_option maxRecDepth 100000 in
theorem spec_l1Own.calls (A0 : Option Addr) (c0 : Nat) (l0 : List Int) (r : List Int) (w : World) (hr0 : Kd.C (Kd.int .i64) w A0 l0.length l0) (hc0 : l0.length ≤ c0) (h : spec_l1Own.f l0 = some r) :
    Calls Try.prog 40 #[.slice A0 l0.length c0] w fun e w' => ∃ v0_ : Value, e = .returned (v0_) ∧ Kd.R (Kd.int .i64) 3 w' w.heap.size (fun _ => True) v0_ r ∧ Below w.heap.size w w' := by
  have HR0 := Aside0.mk hr0
  have HC0 := Aside0.mk hc0
  clear hr0 hc0
  have HB := Aside0.mk (Below.refl w.heap.size w)
  have H : ((some (([] : List Int) : List Int)).bind fun y119 => (if y119.length + l0.length < 17592186044416 then (some (y119 ++ l0)) else (none))) = some r := h
  clear h
  obtain ⟨y119, hy119⟩ : ∃ y_ : List Int, y_ = (([] : List Int)) := ⟨_, rfl⟩
  replace H : (if y119.length + l0.length < 17592186044416 then (some (y119 ++ l0)) else (none)) = some r := by first | (rw [hy119]; with_reducible exact H) | (have H2_ := (Option.bind_some _ _).symm.trans H; rw [hy119]; with_reducible exact H2_) | (have H2_ := (Option.bind_some _ _).symm.trans H; with_reducible exact H2_) | with_reducible exact H | (rw [hy119]; exact H) | exact H
  have Ny119 := Aside0.mk hy119
  clear hy119
  by_cases c2 : y119.length + l0.length < 17592186044416
  · rw [if_pos c2] at H
    have LMc2 := Aside0.mk c2
    clear c2
    obtain ⟨y122, hy122⟩ : ∃ y_ : List Int, y_ = (y119 ++ l0) := ⟨_, rfl⟩
    replace H : (some y122) = some r := by first | (rw [hy122]; with_reducible exact H) | (have H2_ := (Option.bind_some _ _).symm.trans H; rw [hy122]; with_reducible exact H2_) | (have H2_ := (Option.bind_some _ _).symm.trans H; with_reducible exact H2_) | with_reducible exact H | (rw [hy122]; exact H) | exact H
    have Ny122 := Aside0.mk hy122
    clear hy122
    obtain rfl := Option.some.inj H
    go_enter Try.func40, Try.ntmps40
    go_wp2_with (first | ((with_reducible refine gate_dst (N := 3) rfl ?_); refine Kd.R_lit (Kd.int .i64) _ 3 ?hg (N := 3) ?hd (xs := ([] : List Int)) (inner := []) (ok := fun _ => True) (okp := fun _ => True) ?hr ?hp (fun _ hk => hk) trivial (Below.refl _ _) (Nat.le_refl _) (by simp) ?_; (case hd => rfl); (case hg => rfl); (case hr => first | (go_simp; done) | (go_simp; rfl)); (case hp => exact (Reps.none _ _)); intro v120 w3 ho4 hb hg_ hnew_; clear hg_ hnew_; (first | rw [← Ny119.out] at ho4 | (simp only [Int.reduceToNat] at ho4; rw [← Ny119.out] at ho4)); have n0_ := Aside0.mk (Kd.R_lower ho4 (below_size (by repeat (first | (with_reducible first | exact HB.out | apply below_alloc | apply pw_below_drewN | apply below_drew1) | exact HB.out)))); have n1_ := Aside0.mk (below_step (by repeat (first | (with_reducible first | exact HB.out | apply below_alloc | apply pw_below_drewN | apply below_drew1) | exact HB.out)) hb); clear HB; have HO121 := n0_; have HB := n1_; clear n0_ n1_; clear hb ho4) | ((with_reducible refine gate_builtin (b := .append) (xs := #[.tmp 3, .tmp 4]) rfl ?_); at_builtin; refine Kd.R_append_rows (Kd.int .i64) (w0 := w) w.heap.size rfl (.tmp 3) (.tmp 4) 22 3 (.int .i64 0) 8 rfl Try.underlying22 info3 rfl (by decide) (by omega) v120 y119 l0 _ _ _ (fun _ => True) (fun _ => False) rfl rfl ?aO ?aR (fun _ _ h => h) (fun _ h => h.elim) ?aF ?aB ?aS ?aL ?_; (case aR => repeat (first | exact (Kd.C_below HR0.out HB.out) | (with_reducible refine Kd.C_alloc ?_ _) | (with_reducible refine Kd.C_drewN ?_ _) | (with_reducible refine Kd.C_drew ?_))); (case aB => exact (by repeat (first | (with_reducible first | exact HB.out | apply below_alloc | apply pw_below_drewN | apply below_drew1) | exact HB.out))); (case aF => exact (fun _ _ => trivial)); (case aO => exact (by (with_reducible repeat (first | apply Kd.R_alloc | apply Kd.R_drewN | apply Kd.R_drew)); exact HO121.out)); (case aS => exact (below_size (by repeat (first | (with_reducible first | exact HB.out | apply below_alloc | apply pw_below_drewN | apply below_drew1) | exact HB.out)))); (case aL => have := LMc2.out; omega); intro v123 w5 ho hb hg hat; rw [← Ny122.out] at ho; have n0_ := Aside0.mk (hb); have n1_ := Aside0.mk (ho); clear HB; clear HO121; have HB := n0_; have HO124 := n1_; clear n0_ n1_; clear ho hb hg hat))
    go_ret
    exact ⟨_, by first | rfl | (simp [errW_none, errW_some] <;> rfl) | (simp [*, errW_none, errW_some] <;> rfl), by (with_reducible repeat (first | apply Kd.R_alloc | apply Kd.R_drewN | apply Kd.R_drew)); exact HO124.out, by repeat (first | (with_reducible first | exact HB.out | apply below_alloc | apply pw_below_drewN | apply below_drew1) | exact HB.out)⟩
  · rw [if_neg c2] at H
    exact absurd H (by simp)

/-! ### spec_CountCoverings: function 10 -/
--USES helper_cov
theorem spec_CountCoverings.has0 (a : Int) (l : List Int) (hl : l.length ≤ 1000) : ∀ (q k j : Nat), l.length - j = q → q < k → j ≤ l.length → spec_l1Has.l0 k a l (l.length : Int) (j : Int) = some (decide (a ∈ l.drop j)) := by
  intro q
  induction q with
  | zero =>
    intro k j h1 h2 h3
    obtain ⟨k, rfl⟩ : ∃ x, k = x + 1 := ⟨k - 1, by omega⟩
    simp only [spec_l1Has.l0]
    rw [if_neg (by omega), List.drop_eq_nil_of_le (by omega)]
    simp
  | succ q ih =>
    intro k j h1 h2 h3
    obtain ⟨k, rfl⟩ : ∃ x, k = x + 1 := ⟨k - 1, by omega⟩
    have hj : j < l.length := by omega
    have hrd : rd l (j : Int) = l[j] := by simp [rd, List.getD_eq_getElem?_getD, List.getElem?_eq_getElem hj]
    simp only [spec_l1Has.l0]
    rw [if_pos (by omega), if_pos (by omega), if_pos (by omega), hrd]
    rw [List.drop_eq_getElem_cons hj]
    by_cases c : l[j] = a
    · rw [if_pos c]; simp [c]
    · rw [if_neg c, show wrap64 ((j : Int) + 1) = ((j + 1 : Nat) : Int) by unfold wrap64; omega, ih k (j + 1) (by omega) (by omega) (by omega)]
      congr 1
      rw [decide_eq_decide, List.mem_cons]
      exact ⟨fun h => .inr h, fun h => h.resolve_left (fun e => c e.symm)⟩
theorem spec_CountCoverings.has (a : Int) (l : List Int) (hl : l.length ≤ 100) : spec_l1Has.f 1000 l a = some (decide (a ∈ l)) := by
  unfold spec_l1Has.f
  have := spec_CountCoverings.has0 a l (by omega) l.length 1000 0 (by omega) (by omega) (by omega)
  rw [List.drop_zero] at this
  exact this
/-- A row of whole numbers of the calls' own. -/
def spec_CountCoverings.LV (b0 : Nat) (W : World) (v : Value) (l : List Int) : Prop := W.ownsRow b0 3 1 v l.length (l.map (Value.int .i64))
theorem spec_CountCoverings.slice {W : World} {b0 n : Nat} {e : TypeId} {v : Value} {xs : List Value} (h : W.ownsRow b0 e 1 v n xs) : ∃ A n' c, v = .slice A n' c := by
  rcases h.2 with ⟨rfl, _⟩ | ⟨g, c, cu, rfl, _⟩
  · exact ⟨_, _, _, rfl⟩
  · exact ⟨_, _, _, rfl⟩
/-- What the row of all coverings is known to be. -/
structure spec_CountCoverings.St (w0 : World) (B : Nat) (W : World) (n : Int) : Prop where
  b : Below w0.heap.size w0 W
  hb : w0.heap.size ≤ B
  row : ∃ (vo : Value) (vals : List Value), Boxed W B 36 vo ∧ W.ownsRow w0.heap.size 22 1 vo vals.length vals ∧ (vals.length : Int) = n
/-- What stays: the rows of whole numbers. -/
def spec_CountCoverings.fr (W W' : World) : Prop := W.heap.size ≤ W'.heap.size ∧ ∀ (k : Nat) cur, W.heap[k]? = some (.cells cur 3 (0, 0)) → W'.heap[k]? = some (.cells cur 3 (0, 0))
theorem spec_CountCoverings.fr.trans {a b c : World} (h : spec_CountCoverings.fr a b) (k : spec_CountCoverings.fr b c) : spec_CountCoverings.fr a c := ⟨Nat.le_trans h.1 k.1, fun j cur e => k.2 j cur (h.2 j cur e)⟩
theorem spec_CountCoverings.fr.below {a b : World} (h : Below a.heap.size a b) : spec_CountCoverings.fr a b := ⟨h.size, fun k cur e => (h.block k (Array.getElem?_eq_some_iff.1 e).1).trans e⟩
theorem spec_CountCoverings.fr.set {a : World} {B : Nat} {v u : Value} (hB : Boxed a B 36 u) : spec_CountCoverings.fr a (a.setCell ⟨B, 0, none⟩ v) := by
  refine ⟨(grownBy_setCell' a B v).size, fun k cur e => ((grownBy_setCell' a B v).block k (Array.getElem?_eq_some_iff.1 e).1 (fun hk => ?_)).trans e⟩
  obtain rfl := Option.some.inj hk
  unfold Boxed at hB
  rw [e] at hB
  simp at hB
theorem spec_CountCoverings.fr.grown {a b : World} {b0 n : Nat} {v : Value} {xs : List Value} (h : a.ownsRow b0 22 1 v n xs) (hg : a.grownBy b v.ownBlock) : spec_CountCoverings.fr a b := by
  refine ⟨hg.size, fun k cur e => (hg.block k (Array.getElem?_eq_some_iff.1 e).1 (fun hk => ?_)).trans e⟩
  rcases h.2 with ⟨rfl, _⟩ | ⟨g, c, cu, rfl, _, hc, _⟩
  · simp [Value.ownBlock] at hk
  · simp only [Value.ownBlock, Option.some.injEq] at hk
    subst hk
    rw [e] at hc
    simp at hc
theorem spec_CountCoverings.LV.kept {b0 : Nat} {W W' : World} {v : Value} {l : List Int} (h : spec_CountCoverings.LV b0 W v l) (hf : spec_CountCoverings.fr W W') : spec_CountCoverings.LV b0 W' v l := by
  refine ⟨h.1, ?_⟩
  rcases h.2 with h2 | ⟨g, c, cur, e, hb, hc, hr⟩
  · exact .inl h2
  · exact .inr ⟨g, c, cur, e, hb, hf.2 g cur hc, hr⟩
theorem spec_CountCoverings.LV.reads {b0 : Nat} {W : World} {v : Value} {l : List Int} (h : spec_CountCoverings.LV b0 W v l) : ∃ A c, v = .slice A l.length c ∧ l.length ≤ c ∧ Kd.C (Kd.int .i64) W A l.length l :=
  Kd.R_reads (Kd.R_of_own (ok := fun _ => True) h (fun _ _ => trivial))
theorem spec_CountCoverings.St.same {w0 W W' : World} {B : Nat} {n : Int} (h : spec_CountCoverings.St w0 B W n) (hk : Below W.heap.size W W') : spec_CountCoverings.St w0 B W' n := by
  obtain ⟨vo, vals, h1, h2, h3⟩ := h.row
  have hg : W.grownBy W' none := ⟨hk.os, hk.tape, hk.output, hk.size, fun k hk2 _ => hk.block k hk2⟩
  exact ⟨below_step h.b hk, h.hb, vo, vals, h1.kept hg (by simp), h2.kept hg (by
    rcases h2.2 with ⟨rfl, _⟩ | ⟨g, c, cu, rfl, _⟩
    · exact .inl rfl
    · exact .inr (by simp [Value.ownBlock])), h3⟩
set_option maxHeartbeats 8000000 in
set_option maxRecDepth 100000 in
theorem spec_CountCoverings.look (g p : List Int) (r : Int) (hB : covB g p r) (w0 : World) (Ag Ap : Option Addr) (cg cp : Nat) (hg : Kd.C (Kd.int .i64) w0 Ag g.length g) (hp : Kd.C (Kd.int .i64) w0 Ap p.length p) (hcg : g.length ≤ cg) (hcp : p.length ≤ cp) (B : Nat) (d : Nat) :
    ∀ (l : List Int) (m : Int) (v : Value) (W : World), l.length + d = g.length → 0 ≤ m → m + ((7 ^ d : Nat) : Int) ≤ 1000000 → spec_CountCoverings.LV w0.heap.size W v l → spec_CountCoverings.St w0 B W m →
    Calls Try.prog 33 #[.slice Ag g.length cg, .slice Ap p.length cp, .int .i64 r, v, .pointer (some ⟨B, 0, none⟩)] W fun e W' => e = .returned (.tuple #[]) ∧ spec_CountCoverings.St w0 B W' (cov g p r d l m) ∧ spec_CountCoverings.fr W W' := by
  induction d with
  | zero =>
    intro l m v W hl hm hmb hv hS
    obtain ⟨A, c, rfl, hc, hC⟩ := hv.reads
    obtain ⟨vo, vals, h1, h2, h3⟩ := hS.row
    have HS := Aside0.mk hS
    have HV := Aside0.mk hv
    have HO := Aside0.mk h2
    have HX := Aside0.mk h1
    have HN := Aside0.mk h3
    have HM := Aside0.mk hmb
    have q1 := h1.cell
    have q2 := h1.frozen
    have e0 : ((l.length : Int) == (g.length : Int)) = true := by simp; omega
    have hz := below_size hS.b
    clear hS hv h1 h2 h3 hC hmb
    go_enter Try.func33, Try.ntmps33
    go_wp2_with (at_builtin; (refine print_append (w0 := w0) w0.heap.size rfl (.tmp 20) (.tmp 22) 36 22 (.slice none 0 0) 24 rfl Try.underlying36 (by kernel_rfl) rfl (by omega) vo vals (.slice A l.length c) rfl rfl rfl HO.out HS.out.b hz (by have h1 := HN.out; have h2 := HM.out; omega) ?_); intro v1 w1 hown hb1 hg1 hat1; have HOn := Aside0.mk hown; have HBn := Aside0.mk hb1; have HGn := Aside0.mk hg1; obtain ⟨A1, n1, c1, e1⟩ := spec_CountCoverings.slice hown; subst e1; have HXn := Aside0.mk (HX.out.kept hg1 (HX.out.not_row (by decide) HO.out)); have q3 := HXn.out.cell; have q4 := HXn.out.frozen; clear hown hb1 hg1 hat1)
    refine bodyPost_ret (results_none rfl _ _ _) rfl ?_
    refine ⟨rfl, ⟨Below.setCell (p := ⟨B, 0, none⟩) HBn.out HS.out.hb _, HS.out.hb, _, _, HXn.out.set _, HOn.out.kept (grownBy_setCell' _ B _) (.inr (fun e => (HXn.out.not_row (by decide) HOn.out) e.symm)), ?_⟩, (spec_CountCoverings.fr.grown HO.out HGn.out).trans (spec_CountCoverings.fr.set HXn.out)⟩
    simp only [cov, List.length_append, List.length_singleton]
    have := HN.out
    omega
  | succ d ih =>
    intro l m v W hl hm hmb hv hS
    obtain ⟨A, c, rfl, hc, hC⟩ := hv.reads
    have IH := Aside0.mk ih
    have HS := Aside0.mk hS
    have HV := Aside0.mk hv
    have HBN := Aside0.mk hB
    have HG := Aside0.mk hg
    have HP := Aside0.mk hp
    have HC := Aside0.mk hc
    have HMS := Aside0.mk (cov_start hB.2.1.2 hmb)
    have e0 : ((l.length : Int) == (g.length : Int)) = false := by simp; omega
    have hl2 : l.length < g.length := by omega
    clear ih hS hv hB hg hp hC hc hmb
    go_enter Try.func33, Try.ntmps33
    go_wp2
    go_loopg [27] p.length (fun kq v27 w' => ∃ n : Int, v27 = .int .i64 ((p.length : Int) - (kq : Int)) ∧ Aside0 (kq ≤ p.length) ∧ Aside0 (covL (cov g p r d) g p r kq l n = cov g p r (d + 1) l m) ∧ Aside0 (0 ≤ n ∧ n + ((kq * 7 ^ d : Nat) : Int) ≤ 1000000) ∧ Aside0 (spec_CountCoverings.St w0 B w' n) ∧ Aside0 (spec_CountCoverings.fr W w'))
    case atStart => exact ⟨m, by simp, ⟨Nat.le_refl _⟩, ⟨rfl⟩, ⟨hm, HMS.out⟩, HS, ⟨spec_CountCoverings.fr.below (Below.refl _ _)⟩⟩
    case round =>
      obtain ⟨n, rfl, HK, HE, HM, HSi, HF⟩ := hrel
      cases gk with
      | zero =>
        have hd1 : decide ((p.length : Int) - ((0 : Nat) : Int) < (p.length : Int)) = false := decide_eq_false (by omega)
        go_wp2
        go_end0
        exact ⟨rfl, by have := HE.out; simp only [covL] at this; rw [← this]; exact HSi.out, HF.out⟩
      | succ k1 =>
        have HRM := Aside0.mk (cov_room HM.out.2)
        have HE2 := HE.out
        simp only [covL] at HE2
        obtain ⟨i, hi⟩ : ∃ i : Int, (p.length : Int) - ((k1 + 1 : Nat) : Int) = i := ⟨_, rfl⟩
        rw [hi] at HE2
        rw [hi]
        have hi0 : 0 ≤ i := by have := HK.out; omega
        have hi1 : i < (p.length : Int) := by omega
        have hin : i + 1 = (p.length : Int) - (k1 : Int) := by omega
        have hd1 : decide (i < (p.length : Int)) = true := decide_eq_true hi1
        have hpl := HBN.out.2.1.2
        have hgl := HBN.out.1.2
        have hll : l.length ≤ 100 := by omega
        obtain ⟨adp, ep, hcp1⟩ := Kd.at_int HP.out i hi0 hi1
        obtain ⟨adg, eg, hcg1⟩ := Kd.at_int HG.out (l.length : Int) (by omega) (by omega)
        cases ep
        cases eg
        rw [Int.toNat_natCast] at hcg1
        replace hcp1 := (HSi.out.b.cell (World.block_lt_of_cell? w0 _ hcp1)).trans hcp1
        replace hcg1 := (HSi.out.b.cell (World.block_lt_of_cell? w0 _ hcg1)).trans hcg1
        have bx := HBN.out.2.2.2.2 i.toNat (by omega)
        have by_ := HBN.out.2.2.2.1 l.length hl2
        rw [show ((i.toNat : Nat) : Int) = i by omega] at bx
        obtain ⟨x, hx⟩ : ∃ x : Int, rd p i = x := ⟨_, rfl⟩
        obtain ⟨y, hy⟩ : ∃ y : Int, rd g (l.length : Int) = y := ⟨_, rfl⟩
        rw [hx] at hcp1 bx
        rw [hy] at hcg1 by_
        have br := HBN.out.2.2.1
        have wi : wrap64 (i + 1) = i + 1 := by unfold wrap64; omega
        have wi' : IntKind.i64.wrap (i + 1) = i + 1 := (i64_w _).trans wi
        have wy : wrap64 (y + wrap64 (2 * r)) = y + 2 * r := by unfold wrap64; omega
        have hsp : spec_plSpans.f y x r = some (decide (y + 2 * r ≤ x)) := by unfold spec_plSpans.f; rw [wy]
        have HVi := Aside0.mk (HV.out.kept HF.out)
        have HCi : Aside0 (Kd.C (Kd.int .i64) wr A l.length l) := by
          obtain ⟨A', c', e, _, h⟩ := HVi.out.reads
          cases e
          exact ⟨h⟩
        have p0 : decide (0 ≤ i) = true := decide_eq_true hi0
        have p1 : decide (0 ≤ (l.length : Int)) = true := decide_eq_true (by omega)
        have p2 : decide ((l.length : Int) < (g.length : Int)) = true := decide_eq_true (by omega)
        by_cases c1 : y + 2 * r ≤ x
        · have HSP := Aside0.mk (hsp.trans (by rw [decide_eq_true c1]))
          by_cases c2 : i ∈ l
          · have HHS := Aside0.mk ((spec_CountCoverings.has i l hll).trans (by rw [decide_eq_true c2]))
            have hcov : covIn g p r l i = false := by unfold covIn; rw [hx, hy, decide_eq_true c1, decide_eq_true c2]; rfl
            rw [hcov, if_neg (by decide)] at HE2
            have HE3 := Aside0.mk HE2
            clear HE2 HE
            go_wp2_with (first | (go_at_call 38; (refine (spec_plSpans.calls y x r true _ HSP.out).mono ?_); rintro e w4 ⟨rfl, ⟨nd, rfl⟩⟩) | (go_at_call 39; (refine (spec_l1Has.calls 1000 A c l i true _ ?a1 HC.out HHS.out).mono ?_); (case a1 => exact Kd.C_drewN HCi.out _); rintro e w5 ⟨rfl, ⟨nd2, rfl⟩⟩))
            go_roundg k1
            case measure => omega
            case rel => exact ⟨n, rfl, ⟨by omega⟩, HE3, ⟨HM.out.1, HRM.out.2 n (Int.le_add_of_nonneg_right (Int.natCast_nonneg _))⟩, ⟨HSi.out.same (pw_below_drewN (Below.refl _ _) _)⟩, ⟨HF.out.trans (spec_CountCoverings.fr.below (pw_below_drewN (Below.refl _ _) _))⟩⟩
          · have HHS := Aside0.mk ((spec_CountCoverings.has i l hll).trans (by rw [decide_eq_false c2]))
            have hcov : covIn g p r l i = true := by unfold covIn; rw [hx, hy, decide_eq_true c1, decide_eq_false c2]; rfl
            rw [hcov, if_pos rfl] at HE2
            have HE3 := Aside0.mk HE2
            have HOWN := Aside0.mk (show spec_l1Own.f l = some l by unfold spec_l1Own.f; rw [Option.bind_some, if_pos (by simp; omega)]; rfl)
            have HLL := Aside0.mk hll
            have HL2 := Aside0.mk (show (l ++ [i]).length + d = g.length by rw [List.length_append, List.length_singleton]; omega)
            have hsz := below_size HSi.out.b
            have HSZ := Aside0.mk hsz
            clear HE2 HE
            go_wp2_with (first | (go_at_call 38; (refine (spec_plSpans.calls y x r true _ HSP.out).mono ?_); rintro e w4 ⟨rfl, ⟨nd, rfl⟩⟩) | (go_at_call 39; (refine (spec_l1Has.calls 1000 A c l i false _ ?a1 HC.out HHS.out).mono ?_); (case a1 => exact Kd.C_drewN HCi.out _); rintro e w5 ⟨rfl, ⟨nd2, rfl⟩⟩) | (go_at_call 40; (refine (spec_l1Own.calls A c l l _ ?a2 HC.out HOWN.out).mono ?_); (case a2 => exact Kd.C_drewN HCi.out _); rintro e w6 ⟨vO, rfl, hR, hb6⟩; have HR6 := Aside0.mk hR; have HB6 := Aside0.mk (show Below wr.heap.size wr w6 from below_step (pw_below_drewN (Below.refl _ _) _) hb6); clear hR hb6) | (at_builtin; (refine print_append_num (w0 := w0) w0.heap.size rfl (.tmp 50) (.tmp 52) 22 3 .i64 8 rfl Try.underlying22 info3 (by omega) vO l i rfl rfl (own_less (Kd.own_of_R HR6.out) HSZ.out) (below_step HSi.out.b HB6.out) (Nat.le_trans HSZ.out HB6.out.size) (by have := HLL.out; omega) ?_); intro v1 w1 hown hb1 hg1 hat1; obtain ⟨A1, n1, c3, e1⟩ := spec_CountCoverings.slice hown; subst e1; have HO1 := Aside0.mk hown; have HB1 := Aside0.mk (HB6.out.grown hg1 HB6.out.size (own_base (Kd.own_of_R HR6.out))); clear hown hb1 hg1 hat1) | (go_at_call 33; (refine (IH.out (l ++ [i]) n _ _ HL2.out HM.out.1 HRM.out.1 HO1.out (HSi.out.same HB1.out)).mono ?_); rintro e w9 ⟨rfl, hS9, hf9⟩; have HS9 := Aside0.mk hS9; have HF9 := Aside0.mk hf9; clear hS9 hf9))
            have hcl := cov_le (g := g) (r := r) HBN.out.2.1.2 d (l ++ [i]) n
            go_roundg k1
            case measure => omega
            case rel => exact ⟨_, rfl, ⟨by omega⟩, HE3, ⟨by have := HM.out.1; omega, HRM.out.2 _ hcl.2⟩, HS9, ⟨(HF.out.trans (spec_CountCoverings.fr.below HB1.out)).trans HF9.out⟩⟩
        · have HSP := Aside0.mk (hsp.trans (by rw [decide_eq_false c1]))
          have hcov : covIn g p r l i = false := by unfold covIn; rw [hx, hy, decide_eq_false c1]; rfl
          rw [hcov, if_neg (by decide)] at HE2
          have HE3 := Aside0.mk HE2
          clear HE2 HE
          go_wp2_with (first | (go_at_call 38; (refine (spec_plSpans.calls y x r false _ HSP.out).mono ?_); rintro e w4 ⟨rfl, ⟨nd, rfl⟩⟩))
          go_roundg k1
          case measure => omega
          case rel => exact ⟨n, rfl, ⟨by omega⟩, HE3, ⟨HM.out.1, HRM.out.2 n (Int.le_add_of_nonneg_right (Int.natCast_nonneg _))⟩, ⟨HSi.out.same (pw_below_drewN (Below.refl _ _) _)⟩, ⟨HF.out.trans (spec_CountCoverings.fr.below (pw_below_drewN (Below.refl _ _) _))⟩⟩
set_option maxHeartbeats 8000000 in
set_option maxRecDepth 100000 in
theorem spec_CountCoverings.all (g p : List Int) (r : Int) (hB : covB g p r) (Ag Ap : Option Addr) (cg cp : Nat) (w : World) (hg : Kd.C (Kd.int .i64) w Ag g.length g) (hp : Kd.C (Kd.int .i64) w Ap p.length p) (hcg : g.length ≤ cg) (hcp : p.length ≤ cp) :
    Calls Try.prog 21 #[.slice Ag g.length cg, .slice Ap p.length cp, .int .i64 r] w fun e W' => ∃ (A : Option Addr) (n c : Nat), e = .returned (.slice A n c) ∧ (n : Int) = cov g p r g.length [] 0 ∧ Below w.heap.size w W' := by
  have HBN := Aside0.mk hB
  have HG := Aside0.mk hg
  have HP := Aside0.mk hp
  have hst : spec_CountCoverings.St w w.heap.size (w.alloc (.cells #[.slice none 0 0] 36)) 0 := ⟨(Below.refl _ _).alloc (Nat.le_refl _) _, Nat.le_refl _, .slice none 0 0, [], Boxed.new w _ _, World.ownsRow_nil _ _ _ _, rfl⟩
  have HST := Aside0.mk hst
  have HPW := Aside0.mk (cov_pow hB.1.2)
  clear hB hg hp hst
  go_enter Try.func21, Try.ntmps21
  go_wp2_with (go_at_call 33; (refine (spec_CountCoverings.look g p r HBN.out w Ag Ap cg cp HG.out HP.out hcg hcp w.heap.size g.length [] 0 _ _ (by simp) (by omega) (by have := HPW.out; omega) (World.ownsRow_nil _ _ _ _) HST.out).mono ?_); rintro e w9 ⟨rfl, hS9, hf9⟩; obtain ⟨vo, vals, b1, b2, b3⟩ := hS9.row; obtain ⟨A1, n1, c1, e1⟩ := spec_CountCoverings.slice b2; subst e1; have HS9 := Aside0.mk hS9; have HN9 := Aside0.mk b3; have HO9 := Aside0.mk b2; have q1 := b1.cell; clear hS9 hf9 b1 b2 b3)
  go_ret
  refine ⟨A1, n1, c1, rfl, ?_, HS9.out.b⟩
  rw [← HN9.out]
  rcases HO9.out.2 with ⟨e, h⟩ | ⟨gb, cap, cur, e, _⟩
  · cases e; rw [h]
  · cases e; rfl
def spec_CountCoverings.f (k : Nat) (l0 l1 : List Int) (a2 : Int) : Option (Int × Bool) := (spec_plAsked.f k l0 l1 a2).bind fun t => if t = true then (if covB l0 l1 a2 then some (cov l0 l1 a2 l0.length [] 0, true) else none) else some (0, false)
theorem spec_CountCoverings.mono : ∀ l0 l1 a2 k, LeO (spec_CountCoverings.f k l0 l1 a2) (spec_CountCoverings.f (k + 1) l0 l1 a2) := fun l0 l1 a2 k => LeO.bind (spec_plAsked.mono l0 l1 a2 k) (fun _ => LeO.refl _)
set_option maxHeartbeats 8000000 in
set_option maxRecDepth 100000 in
theorem spec_CountCoverings.calls (k : Nat) (A0 : Option Addr) (c0 : Nat) (l0 : List Int) (A1 : Option Addr) (c1 : Nat) (l1 : List Int) (a2 : Int) (r1 : Int) (r2 : Bool) (w : World) (hr0 : Kd.C (Kd.int .i64) w A0 l0.length l0) (hc0 : l0.length ≤ c0) (hr1 : Kd.C (Kd.int .i64) w A1 l1.length l1) (hc1 : l1.length ≤ c1) (h : spec_CountCoverings.f k l0 l1 a2 = some (r1, r2)) :
    Calls Try.prog 10 #[.slice A0 l0.length c0, .slice A1 l1.length c1, .int .i64 a2] w fun e w' => e = .returned (.tuple #[.int .i64 r1, .bool r2]) ∧ Below w.heap.size w w' := by
  have HR0 := Aside0.mk hr0
  have HR1 := Aside0.mk hr1
  have HC0 := Aside0.mk hc0
  have HC1 := Aside0.mk hc1
  clear hr0 hr1 hc0 hc1
  obtain ⟨t, ht, h⟩ := Option.bind_eq_some_iff.mp h
  have HT := Aside0.mk ht
  clear ht
  cases t with
  | false =>
    simp only [Bool.false_eq_true, if_false, Option.some.injEq, Prod.mk.injEq] at h
    obtain ⟨rfl, rfl⟩ := h
    go_enter Try.func10, Try.ntmps10
    go_wp2_with (go_at_call 20; (refine (spec_plAsked.calls k _ _ l0 _ _ l1 a2 false _ HR0.out HC0.out HR1.out HC1.out HT.out).mono ?_); rintro e w3 ⟨rfl, ⟨nd, rfl⟩⟩)
    go_ret2
    exact ⟨rfl, pw_below_drewN (Below.refl _ _) _⟩
  | true =>
    simp only [if_true] at h
    by_cases hB : covB l0 l1 a2
    case neg => rw [if_neg hB] at h; cases h
    rw [if_pos hB] at h
    simp only [Option.some.injEq, Prod.mk.injEq] at h
    obtain ⟨h1, rfl⟩ := h
    have HB := Aside0.mk hB
    have HE := Aside0.mk h1
    clear hB h1
    go_enter Try.func10, Try.ntmps10
    go_wp2_with (first | (go_at_call 20; (refine (spec_plAsked.calls k _ _ l0 _ _ l1 a2 true _ HR0.out HC0.out HR1.out HC1.out HT.out).mono ?_); rintro e w3 ⟨rfl, ⟨nd, rfl⟩⟩) | (go_at_call 21; (refine (spec_CountCoverings.all l0 l1 a2 HB.out _ _ _ _ _ (Kd.C_drewN HR0.out _) (Kd.C_drewN HR1.out _) HC0.out HC1.out).mono ?_); rintro e w4 ⟨A4, n4, c4, rfl, hn4, hb4⟩; have HN4 := Aside0.mk hn4; have HB4 := Aside0.mk (below_step (pw_below_drewN (Below.refl _ _) nd) hb4); clear hn4 hb4))
    go_ret2
    exact ⟨by rw [← HE.out, ← HN4.out]; rfl, HB4.out⟩

/-! ### impl_within: function 25 -/
def impl_within.f (a0 : Int) (a1 : Int) (a2 : Int) : Option (Bool) := if a1 ≤ a0 then (some (decide (a0 ≤ a2))) else (some false)
set_option maxHeartbeats 8000000 in
set_option maxRecDepth 100000 in
theorem impl_within.calls (a0 : Int) (a1 : Int) (a2 : Int) (r : Bool) (w : World) (h : impl_within.f a0 a1 a2 = some r) :
    Calls Try.prog 25 #[.int .i64 a0, .int .i64 a1, .int .i64 a2] w fun e w' => e = .returned (.bool r) ∧ Drawn0 w w' := by
  have H : (if a1 ≤ a0 then (some (decide (a0 ≤ a2))) else (some false)) = some r := h
  clear h
  by_cases c4 : a1 ≤ a0
  · rw [if_pos c4] at H
    have c4b0 : decide (a1 ≤ a0) = true := decide_eq_true c4
    clear c4
    obtain rfl := Option.some.inj H
    go_enter Try.func25, Try.ntmps25
    go_wp2
    go_ret
    exact ⟨by first | rfl | (simp; done) | (simp [*]; done), by repeat (first | exact Drawn0.refl _ | apply Drawn0.step)⟩
  · rw [if_neg c4] at H
    have c4b0 : decide (a1 ≤ a0) = false := decide_eq_false c4
    clear c4
    obtain rfl := Option.some.inj H
    go_enter Try.func25, Try.ntmps25
    go_wp2
    go_ret
    exact ⟨by first | rfl | (simp; done) | (simp [*]; done), by repeat (first | exact Drawn0.refl _ | apply Drawn0.step)⟩

/-! ### impl_isRest: function 27 -/
def impl_isRest.f (a0 : Int) : Option (Bool) := (impl_within.f a0 0 10).bind fun t125 => (some t125)
set_option maxHeartbeats 8000000 in
set_option maxRecDepth 100000 in
theorem impl_isRest.calls (a0 : Int) (r : Bool) (w : World) (h : impl_isRest.f a0 = some r) :
    Calls Try.prog 27 #[.int .i64 a0] w fun e w' => e = .returned (.bool r) ∧ Drawn0 w w' := by
  have H : ((impl_within.f a0 0 10).bind fun t125 => (some t125)) = some r := h
  clear h
  replace H := Option.bind_eq_some_iff.mp H
  obtain ⟨t125, A20, H⟩ := H
  replace H : (some t125) = some r := H
  have A2 := Aside0.mk A20
  clear A20
  obtain rfl := Option.some.inj H
  go_enter Try.func27, Try.ntmps27
  go_wp2_with (first | ((with_reducible refine gate_callee (f := 25) rfl ?_); refine goesL_ (some 4) rfl rfl Try.func25 (by kernel_rfl) rfl #[.int .i64 a0, .int .i64 0, .int .i64 10] rfl (by (try simp only [List.map_toArray, List.map_cons, List.map_nil]); first | done | rfl | (simp only [List.length_drop, List.length_take]; rfl)) ?_; (with_reducible refine (impl_within.calls a0 0 10 t125 _ A2.out).mono ?_); rintro e w' ⟨rfl, ⟨nd, rfl⟩⟩; refine ⟨_, rfl, ?_⟩))
  go_ret
  exact ⟨by first | rfl | (simp; done) | (simp [*]; done), by repeat (first | exact Drawn0.refl _ | apply Drawn0.step)⟩

/-! ### impl_areWithin: function 41 -/
def impl_areWithin.l0 (l : List Int) (lo hi : Int) : Nat → Int → Option (Bool)
  | 0, _ => none
  | k + 1, i => if i < (l.length : Int) then (if 0 ≤ i then ((impl_within.f (rd l i) lo hi).bind fun t => (if t = true then (impl_areWithin.l0 l lo hi k (wrap64 (i + 1))) else (some false))) else (none)) else (some true)
def impl_areWithin.f (l0 : List Int) (a1 : Int) (a2 : Int) : Option (Bool) := impl_areWithin.l0 l0 a1 a2 (l0.length + 1) 0
def impl_areWithin.Post (b : Bool) (w : World) (e : Ending) (w' : World) : Prop := ∃ n : Int, e = .returned (.int .i64 n) ∧ decide (n ≥ 0) = !b ∧ Drawn0 w w'
set_option maxHeartbeats 8000000 in
set_option maxRecDepth 100000 in
theorem impl_areWithin.cl (x lo hi : Int) (B1 B2 : Nat) (r : Bool) (w : World) (h1 : w.cell? ⟨B1, 0, none⟩ = some (.int .i64 lo)) (h2 : w.cell? ⟨B2, 0, none⟩ = some (.int .i64 hi)) (h : impl_within.f x lo hi = some r) :
    Calls Try.prog 44 #[.int .i64 x, .pointer (some ⟨B1, 0, none⟩), .pointer (some ⟨B2, 0, none⟩)] w fun e w' => e = .returned (.bool (!r)) ∧ Drawn0 w w' := by
  have H := Aside0.mk h
  clear h
  go_enter Try.func44, Try.ntmps44
  go_wp2_with (go_at_call 25; (with_reducible refine (impl_within.calls x lo hi r _ H.out).mono ?_); rintro e w' ⟨rfl, ⟨nd, rfl⟩⟩)
  go_ret
  exact ⟨rfl, ⟨_, rfl⟩⟩
theorem impl_areWithin.cellN {w : World} {a : Addr} {v : Value} (h : w.cell? a = some v) (m : Nat) : (w.drewN m).cell? a = some v := by simpa using h
set_option maxHeartbeats 8000000 in
set_option maxRecDepth 100000 in
theorem impl_areWithin.idx (k : Nat) (A0 : Option Addr) (c0 : Nat) (l0 : List Int) (lo hi : Int) (B1 B2 : Nat) (b : Bool) (w : World) (hr0 : Kd.C (Kd.int .i64) w A0 l0.length l0) (h1 : w.cell? ⟨B1, 0, none⟩ = some (.int .i64 lo)) (h2 : w.cell? ⟨B2, 0, none⟩ = some (.int .i64 hi)) (h : impl_areWithin.l0 l0 lo hi k 0 = some b) :
    Calls Try.prog 45 #[.slice A0 l0.length c0, .func (.func 44) #[] #[.pointer (some ⟨B1, 0, none⟩), .pointer (some ⟨B2, 0, none⟩)]] w (impl_areWithin.Post b w) := by
  have HR0 := Aside0.mk hr0
  have H1 := Aside0.mk h1
  have H2 := Aside0.mk h2
  have H' := Aside0.mk h
  clear hr0 h1 h2 h
  go_enter Try.func45, Try.ntmps45
  go_wp2
  go_loopg [8] k (fun kq v8 w' => ∃ (i : Int), v8 = .int .i64 i ∧ Aside0 (0 ≤ i) ∧ Aside0 (impl_areWithin.l0 l0 lo hi kq i = some b) ∧ Aside0 (kq ≤ k) ∧ Drawn0 w w')
  case atStart => exact ⟨0, rfl, ⟨Int.le_refl _⟩, H', ⟨Nat.le_refl _⟩, Drawn0.refl _⟩
  case round =>
    clear H'
    obtain ⟨i, rfl, HI, HA, HK1, ⟨m1, rfl⟩⟩ := hrel
    cases gk with
    | zero => exact absurd HA.out (by simp [impl_areWithin.l0])
    | succ k1 =>
      have H := HA.out
      clear HA
      simp only [impl_areWithin.l0] at H
      by_cases c2 : i < (l0.length : Int)
      · rw [if_pos c2, if_pos HI.out] at H
        obtain ⟨t, ht, H⟩ := Option.bind_eq_some_iff.mp H
        obtain ⟨ad, e0, hx⟩ := Kd.at_int HR0.out i HI.out c2
        have hx2 := impl_areWithin.cellN hx m1
        have A2 := Aside0.mk ht
        clear ht hx
        have c2b0 : decide (i < (l0.length : Int)) = true := decide_eq_true c2
        have p1 := eq_true HI.out
        have q1 := eq_true c2
        clear c2
        cases e0
        have C1 := Aside0.mk (impl_areWithin.cellN H1.out m1)
        have C2 := Aside0.mk (impl_areWithin.cellN H2.out m1)
        cases t with
        | true =>
          have H' := Aside0.mk (show impl_areWithin.l0 l0 lo hi k1 (wrap64 (i + 1)) = some b from H)
          clear H
          go_wp2_with (go_at_call 44; (with_reducible refine (impl_areWithin.cl _ lo hi B1 B2 true _ C1.out C2.out A2.out).mono ?_); rintro e w' ⟨rfl, ⟨nd, rfl⟩⟩)
          go_roundg k1
          case measure => have := HK1.out; omega
          case rel => exact ⟨wrap64 (i + 1), rfl, ⟨by have h3 := HI.out; have h4 := of_eq_true q1; have h5 := (Kd.reads_of_C (enc := Value.int .i64) (d := (0 : Int)) (h1 := fun _ => rfl) HR0.out).2.1; unfold wrap64; omega⟩, H', ⟨by have := HK1.out; omega⟩, ⟨_, rfl⟩⟩
        | false =>
          have H' := Option.some.inj (show some false = some b from H)
          clear H
          subst H'
          go_wp2_with (go_at_call 44; (with_reducible refine (impl_areWithin.cl _ lo hi B1 B2 false _ C1.out C2.out A2.out).mono ?_); rintro e w' ⟨rfl, ⟨nd, rfl⟩⟩)
          go_ret
          exact ⟨i, rfl, by simpa using HI.out, ⟨_, rfl⟩⟩
      · rw [if_neg c2] at H
        have c2b0 : decide (i < (l0.length : Int)) = false := decide_eq_false c2
        clear c2
        have H' := Option.some.inj H
        clear H
        subst H'
        go_wp2
        go_ret
        exact ⟨-1, rfl, rfl, ⟨_, rfl⟩⟩
set_option maxHeartbeats 8000000 in
set_option maxRecDepth 100000 in
theorem impl_areWithin.contains (k : Nat) (A0 : Option Addr) (c0 : Nat) (l0 : List Int) (lo hi : Int) (B1 B2 : Nat) (b : Bool) (w : World) (hr0 : Kd.C (Kd.int .i64) w A0 l0.length l0) (h1 : w.cell? ⟨B1, 0, none⟩ = some (.int .i64 lo)) (h2 : w.cell? ⟨B2, 0, none⟩ = some (.int .i64 hi)) (h : impl_areWithin.l0 l0 lo hi k 0 = some b) :
    Calls Try.prog 43 #[.slice A0 l0.length c0, .func (.func 44) #[] #[.pointer (some ⟨B1, 0, none⟩), .pointer (some ⟨B2, 0, none⟩)]] w fun e w' => e = .returned (.bool (!b)) ∧ Drawn0 w w' := by
  have hcon := Aside0.mk (impl_areWithin.idx k A0 c0 l0 lo hi B1 B2 b w hr0 h1 h2 h)
  clear hr0 h1 h2 h
  go_enter Try.func43, Try.ntmps43
  go_wp2_with fail
  refine hcon.out.mono ?_
  rintro e w' ⟨n, rfl, hn, ⟨nd, rfl⟩⟩
  have hn2 : decide (0 ≤ n) = !b := hn
  go_wp2
  go_ret
  exact ⟨by first | rfl | (rw [hn2]) | (simp [hn2]), ⟨_, rfl⟩⟩
set_option maxHeartbeats 8000000 in
set_option maxRecDepth 100000 in
theorem impl_areWithin.calls (A0 : Option Addr) (c0 : Nat) (l0 : List Int) (a1 : Int) (a2 : Int) (r : Bool) (w : World) (hr0 : Kd.C (Kd.int .i64) w A0 l0.length l0) (hc0 : l0.length ≤ c0) (h : impl_areWithin.f l0 a1 a2 = some r) :
    Calls Try.prog 41 #[.slice A0 l0.length c0, .int .i64 a1, .int .i64 a2] w fun e w' => e = .returned (.bool r) ∧ Below w.heap.size w w' := by
  have hmf : ∀ (fn : Fn) (first cap : Array Value) (w : World), (Instr.makeFunc fn first cap).run Try.prog w = .ok (.func fn first cap) w := fun _ _ _ _ => rfl
  have hB2 : Below w.heap.size w ((w.alloc (.cells #[.int .i64 a1] 3)).alloc (.cells #[.int .i64 a2] 3)) := ((Below.refl _ _).alloc (Nat.le_refl _) _).alloc (by simp) _
  have hM1 : ((w.alloc (.cells #[.int .i64 a1] 3)).alloc (.cells #[.int .i64 a2] 3)).cell? ⟨w.heap.size, 0, none⟩ = some (.int .i64 a1) := by
    rw [World.cell?_alloc_past _ _ _ (by simp), World.cell?_alloc_at _ _ _ _ rfl]; rfl
  have hM2 : ((w.alloc (.cells #[.int .i64 a1] 3)).alloc (.cells #[.int .i64 a2] 3)).cell? ⟨w.heap.size + 1, 0, none⟩ = some (.int .i64 a2) := by
    rw [World.cell?_alloc_at _ _ _ _ (by simp)]; rfl
  have hcon := Aside0.mk (impl_areWithin.contains (l0.length + 1) A0 c0 l0 a1 a2 w.heap.size (w.heap.size + 1) r _ (Kd.C_below hr0 hB2) hM1 hM2 h)
  have HB2 := Aside0.mk hB2
  clear hr0 hc0 h hM1 hM2 hB2
  go_enter Try.func41, Try.ntmps41
  go_wp2_with fail
  refine hcon.out.mono ?_
  rintro e w' ⟨rfl, ⟨nd, rfl⟩⟩
  go_wp2
  go_ret
  exact ⟨by simp, pw_below_drewN HB2.out _⟩


/-! ### impl_ArePlanks: function 34 -/
def impl_ArePlanks.f (l0 : List Int) : Option (Bool) := (impl_within.f (l0.length : Int) 1 7).bind fun t126 => (if t126 = true then ((impl_areWithin.f l0 1 100).bind fun t127 => (some t127)) else (some false))
set_option maxHeartbeats 8000000 in
set_option maxRecDepth 100000 in
theorem impl_ArePlanks.calls (A0 : Option Addr) (c0 : Nat) (l0 : List Int) (r : Bool) (w : World) (hr0 : Kd.C (Kd.int .i64) w A0 l0.length l0) (hc0 : l0.length ≤ c0) (h : impl_ArePlanks.f l0 = some r) :
    Calls Try.prog 34 #[.slice A0 l0.length c0] w fun e w' => e = .returned (.bool r) ∧ Below w.heap.size w w' := by
  have HR0 := Aside0.mk hr0
  have HC0 := Aside0.mk hc0
  clear hr0 hc0
  have HB := Aside0.mk (Below.refl w.heap.size w)
  have H : ((impl_within.f (l0.length : Int) 1 7).bind fun t126 => (if t126 = true then ((impl_areWithin.f l0 1 100).bind fun t127 => (some t127)) else (some false))) = some r := h
  clear h
  replace H := Option.bind_eq_some_iff.mp H
  obtain ⟨t126, A20, H⟩ := H
  replace H : (if t126 = true then ((impl_areWithin.f l0 1 100).bind fun t127 => (some t127)) else (some false)) = some r := H
  have A2 := Aside0.mk A20
  clear A20
  by_cases c3 : t126 = true
  · subst c3
    have H1 : ((impl_areWithin.f l0 1 100).bind fun t127 => (some t127)) = some r := by rw [if_pos rfl] at H; exact H
    clear H
    have H := H1
    clear H1
    replace H := Option.bind_eq_some_iff.mp H
    obtain ⟨t127, A40, H⟩ := H
    replace H : (some t127) = some r := H
    have A4 := Aside0.mk A40
    clear A40
    obtain rfl := Option.some.inj H
    go_enter Try.func34, Try.ntmps34
    go_wp2_with (first | ((with_reducible refine gate_callee (f := 25) rfl ?_); refine goesL_ (some 5) rfl rfl Try.func25 (by kernel_rfl) rfl #[.int .i64 (l0.length : Int), .int .i64 1, .int .i64 7] rfl (by (try simp only [List.map_toArray, List.map_cons, List.map_nil]); first | done | rfl | (simp only [List.length_drop, List.length_take]; rfl)) ?_; (with_reducible refine (impl_within.calls (l0.length : Int) 1 7 true _ A2.out).mono ?_); rintro e w' ⟨rfl, ⟨nd, rfl⟩⟩; refine ⟨_, rfl, ?_⟩) | (go_at_call 41; (with_reducible refine (impl_areWithin.calls _ _ l0 1 100 t127 _ ?side1 ?side2 A4.out).mono ?_); (case side1 => repeat (first | exact HR0.out | (with_reducible refine Kd.C_alloc ?_ _) | (with_reducible refine Kd.C_drewN ?_ _) | (with_reducible refine Kd.C_drew ?_))); (case side2 => exact HC0.out); rintro e w5 ⟨rfl, hb⟩; have n0_ := Aside0.mk (below_step (by repeat (first | (with_reducible first | exact HB.out | apply below_alloc | apply pw_below_drewN | apply below_drew1) | exact HB.out)) hb); clear HB; have HB := n0_; clear n0_; (try clear hb); (try clear hb2); (try clear hk); (try clear hi)))
    go_ret
    exact ⟨by first | rfl | (simp [errW_none, errW_some] <;> rfl) | (simp [*, errW_none, errW_some] <;> rfl), by repeat (first | (with_reducible first | exact HB.out | apply below_alloc | apply pw_below_drewN | apply below_drew1) | exact HB.out)⟩
  · replace c3 := Bool.eq_false_iff.mpr c3
    subst c3
    have H1 : (some false) = some r := by rw [if_neg (show ¬ (false = true) by decide)] at H; exact H
    clear H
    have H := H1
    clear H1
    obtain rfl := Option.some.inj H
    go_enter Try.func34, Try.ntmps34
    go_wp2_with (first | ((with_reducible refine gate_callee (f := 25) rfl ?_); refine goesL_ (some 5) rfl rfl Try.func25 (by kernel_rfl) rfl #[.int .i64 (l0.length : Int), .int .i64 1, .int .i64 7] rfl (by (try simp only [List.map_toArray, List.map_cons, List.map_nil]); first | done | rfl | (simp only [List.length_drop, List.length_take]; rfl)) ?_; (with_reducible refine (impl_within.calls (l0.length : Int) 1 7 false _ A2.out).mono ?_); rintro e w' ⟨rfl, ⟨nd, rfl⟩⟩; refine ⟨_, rfl, ?_⟩))
    go_ret
    exact ⟨by first | rfl | (simp [errW_none, errW_some] <;> rfl) | (simp [*, errW_none, errW_some] <;> rfl), by repeat (first | (with_reducible first | exact HB.out | apply below_alloc | apply pw_below_drewN | apply below_drew1) | exact HB.out)⟩

/-! ### impl_areSpanned: function 22 -/
def impl_areSpanned.f (l0 : List Int) (l1 : List Int) (a2 : Int) : Option (Bool) := (impl_ArePlanks.f l0).bind fun t128 => (if t128 = true then ((impl_ArePlanks.f l1).bind fun t129 => (if t129 = true then ((impl_isRest.f a2).bind fun t130 => (some t130)) else (some false))) else (some false))
set_option maxHeartbeats 8000000 in
set_option maxRecDepth 100000 in
theorem impl_areSpanned.calls (A0 : Option Addr) (c0 : Nat) (l0 : List Int) (A1 : Option Addr) (c1 : Nat) (l1 : List Int) (a2 : Int) (r : Bool) (w : World) (hr0 : Kd.C (Kd.int .i64) w A0 l0.length l0) (hc0 : l0.length ≤ c0) (hr1 : Kd.C (Kd.int .i64) w A1 l1.length l1) (hc1 : l1.length ≤ c1) (h : impl_areSpanned.f l0 l1 a2 = some r) :
    Calls Try.prog 22 #[.slice A0 l0.length c0, .slice A1 l1.length c1, .int .i64 a2] w fun e w' => e = .returned (.bool r) ∧ Below w.heap.size w w' := by
  have HR0 := Aside0.mk hr0
  have HC0 := Aside0.mk hc0
  clear hr0 hc0
  have HR1 := Aside0.mk hr1
  have HC1 := Aside0.mk hc1
  clear hr1 hc1
  have HB := Aside0.mk (Below.refl w.heap.size w)
  have H : ((impl_ArePlanks.f l0).bind fun t128 => (if t128 = true then ((impl_ArePlanks.f l1).bind fun t129 => (if t129 = true then ((impl_isRest.f a2).bind fun t130 => (some t130)) else (some false))) else (some false))) = some r := h
  clear h
  replace H := Option.bind_eq_some_iff.mp H
  obtain ⟨t128, A40, H⟩ := H
  replace H : (if t128 = true then ((impl_ArePlanks.f l1).bind fun t129 => (if t129 = true then ((impl_isRest.f a2).bind fun t130 => (some t130)) else (some false))) else (some false)) = some r := H
  have A4 := Aside0.mk A40
  clear A40
  by_cases c5 : t128 = true
  · subst c5
    have H1 : ((impl_ArePlanks.f l1).bind fun t129 => (if t129 = true then ((impl_isRest.f a2).bind fun t130 => (some t130)) else (some false))) = some r := by rw [if_pos rfl] at H; exact H
    clear H
    have H := H1
    clear H1
    replace H := Option.bind_eq_some_iff.mp H
    obtain ⟨t129, A60, H⟩ := H
    replace H : (if t129 = true then ((impl_isRest.f a2).bind fun t130 => (some t130)) else (some false)) = some r := H
    have A6 := Aside0.mk A60
    clear A60
    by_cases c7 : t129 = true
    · subst c7
      have H1 : ((impl_isRest.f a2).bind fun t130 => (some t130)) = some r := by rw [if_pos rfl] at H; exact H
      clear H
      have H := H1
      clear H1
      replace H := Option.bind_eq_some_iff.mp H
      obtain ⟨t130, A80, H⟩ := H
      replace H : (some t130) = some r := H
      have A8 := Aside0.mk A80
      clear A80
      obtain rfl := Option.some.inj H
      go_enter Try.func22, Try.ntmps22
      go_wp2_with (first | ((with_reducible refine gate_callee (f := 34) rfl ?_); refine goesL_ (some 8) rfl rfl Try.func34 (by kernel_rfl) rfl #[.slice A0 l0.length c0] rfl (by (try simp only [List.map_toArray, List.map_cons, List.map_nil]); first | done | rfl | (simp only [List.length_drop, List.length_take]; rfl)) ?_; (with_reducible refine (impl_ArePlanks.calls _ _ l0 true _ ?side1 ?side2 A4.out).mono ?_); (case side1 => repeat (first | exact HR0.out | (with_reducible refine Kd.C_alloc ?_ _) | (with_reducible refine Kd.C_drewN ?_ _) | (with_reducible refine Kd.C_drew ?_))); (case side2 => exact HC0.out); rintro e w9 ⟨rfl, hb⟩; refine ⟨_, rfl, ?_⟩; have n0_ := Aside0.mk (below_step (by repeat (first | (with_reducible first | exact HB.out | apply below_alloc | apply pw_below_drewN | apply below_drew1) | exact HB.out)) hb); clear HB; have HB := n0_; clear n0_; (try clear hb); (try clear hb2); (try clear hk); (try clear hi)) | (go_at_call 34; (with_reducible refine (impl_ArePlanks.calls _ _ l1 true _ ?side1 ?side2 A6.out).mono ?_); (case side1 => repeat (first | exact (Kd.C_below HR1.out HB.out) | (with_reducible refine Kd.C_alloc ?_ _) | (with_reducible refine Kd.C_drewN ?_ _) | (with_reducible refine Kd.C_drew ?_))); (case side2 => exact HC1.out); rintro e w10 ⟨rfl, hb⟩; have n0_ := Aside0.mk (below_step (by repeat (first | (with_reducible first | exact HB.out | apply below_alloc | apply pw_below_drewN | apply below_drew1) | exact HB.out)) hb); clear HB; have HB := n0_; clear n0_; (try clear hb); (try clear hb2); (try clear hk); (try clear hi)) | (go_at_call 27; (with_reducible refine (impl_isRest.calls a2 t130 _ A8.out).mono ?_); rintro e w' ⟨rfl, ⟨nd, rfl⟩⟩))
      go_ret
      exact ⟨by first | rfl | (simp [errW_none, errW_some] <;> rfl) | (simp [*, errW_none, errW_some] <;> rfl), by repeat (first | (with_reducible first | exact HB.out | apply below_alloc | apply pw_below_drewN | apply below_drew1) | exact HB.out)⟩
    · replace c7 := Bool.eq_false_iff.mpr c7
      subst c7
      have H1 : (some false) = some r := by rw [if_neg (show ¬ (false = true) by decide)] at H; exact H
      clear H
      have H := H1
      clear H1
      obtain rfl := Option.some.inj H
      go_enter Try.func22, Try.ntmps22
      go_wp2_with (first | ((with_reducible refine gate_callee (f := 34) rfl ?_); refine goesL_ (some 8) rfl rfl Try.func34 (by kernel_rfl) rfl #[.slice A0 l0.length c0] rfl (by (try simp only [List.map_toArray, List.map_cons, List.map_nil]); first | done | rfl | (simp only [List.length_drop, List.length_take]; rfl)) ?_; (with_reducible refine (impl_ArePlanks.calls _ _ l0 true _ ?side1 ?side2 A4.out).mono ?_); (case side1 => repeat (first | exact HR0.out | (with_reducible refine Kd.C_alloc ?_ _) | (with_reducible refine Kd.C_drewN ?_ _) | (with_reducible refine Kd.C_drew ?_))); (case side2 => exact HC0.out); rintro e w11 ⟨rfl, hb⟩; refine ⟨_, rfl, ?_⟩; have n0_ := Aside0.mk (below_step (by repeat (first | (with_reducible first | exact HB.out | apply below_alloc | apply pw_below_drewN | apply below_drew1) | exact HB.out)) hb); clear HB; have HB := n0_; clear n0_; (try clear hb); (try clear hb2); (try clear hk); (try clear hi)) | (go_at_call 34; (with_reducible refine (impl_ArePlanks.calls _ _ l1 false _ ?side1 ?side2 A6.out).mono ?_); (case side1 => repeat (first | exact (Kd.C_below HR1.out HB.out) | (with_reducible refine Kd.C_alloc ?_ _) | (with_reducible refine Kd.C_drewN ?_ _) | (with_reducible refine Kd.C_drew ?_))); (case side2 => exact HC1.out); rintro e w12 ⟨rfl, hb⟩; have n0_ := Aside0.mk (below_step (by repeat (first | (with_reducible first | exact HB.out | apply below_alloc | apply pw_below_drewN | apply below_drew1) | exact HB.out)) hb); clear HB; have HB := n0_; clear n0_; (try clear hb); (try clear hb2); (try clear hk); (try clear hi)))
      go_ret
      exact ⟨by first | rfl | (simp [errW_none, errW_some] <;> rfl) | (simp [*, errW_none, errW_some] <;> rfl), by repeat (first | (with_reducible first | exact HB.out | apply below_alloc | apply pw_below_drewN | apply below_drew1) | exact HB.out)⟩
  · replace c5 := Bool.eq_false_iff.mpr c5
    subst c5
    have H1 : (some false) = some r := by rw [if_neg (show ¬ (false = true) by decide)] at H; exact H
    clear H
    have H := H1
    clear H1
    obtain rfl := Option.some.inj H
    go_enter Try.func22, Try.ntmps22
    go_wp2_with (first | ((with_reducible refine gate_callee (f := 34) rfl ?_); refine goesL_ (some 8) rfl rfl Try.func34 (by kernel_rfl) rfl #[.slice A0 l0.length c0] rfl (by (try simp only [List.map_toArray, List.map_cons, List.map_nil]); first | done | rfl | (simp only [List.length_drop, List.length_take]; rfl)) ?_; (with_reducible refine (impl_ArePlanks.calls _ _ l0 false _ ?side1 ?side2 A4.out).mono ?_); (case side1 => repeat (first | exact HR0.out | (with_reducible refine Kd.C_alloc ?_ _) | (with_reducible refine Kd.C_drewN ?_ _) | (with_reducible refine Kd.C_drew ?_))); (case side2 => exact HC0.out); rintro e w13 ⟨rfl, hb⟩; refine ⟨_, rfl, ?_⟩; have n0_ := Aside0.mk (below_step (by repeat (first | (with_reducible first | exact HB.out | apply below_alloc | apply pw_below_drewN | apply below_drew1) | exact HB.out)) hb); clear HB; have HB := n0_; clear n0_; (try clear hb); (try clear hb2); (try clear hk); (try clear hi)))
    go_ret
    exact ⟨by first | rfl | (simp [errW_none, errW_some] <;> rfl) | (simp [*, errW_none, errW_some] <;> rfl), by repeat (first | (with_reducible first | exact HB.out | apply below_alloc | apply pw_below_drewN | apply below_drew1) | exact HB.out)⟩

end Go.Proofs.Ytjkhpdfphphnfaa.PFnExactCountCoverings
