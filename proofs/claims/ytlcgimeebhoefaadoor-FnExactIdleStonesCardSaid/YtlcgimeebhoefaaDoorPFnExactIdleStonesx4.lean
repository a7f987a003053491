-- Printed by this session's eprint.py over the kit's print (with this session's own texts for some functions)
import Derived.Test.YtlcgimeebhoefaaDoorPFnExactIdleStonesx0
import Derived.Test.YtlcgimeebhoefaaDoorPFnExactIdleStonesx3
namespace Go.Proofs.YtlcgimeebhoefaaDoor.PFnExactIdleStones
open Go.RowKit Go.Proofs.YtlcgimeebhoefaaDoorW.PrintWords Go.Proofs.YtlcgimeebhoefaaDoorW.PrintLast Go.Proofs.YtlcgimeebhoefaaDoorW.PrintMore
attribute [local go_sem] max2_int min2_int max_two min_two max_three min_three max_four min_four   -- for this text's walks alone
set_option linter.unusedVariables false
set_option linter.unusedSimpArgs false

/-! ### impl_leapsLeft: function 38 -/
/-- One look from a place at another. -/
def impl_leapsLeft.stepL (xs : List Int) (f t : Int) : List Int := if 0 ≤ rd xs t ∧ (rd xs f < 0 ∨ wrap64 (rd xs t + 1) < rd xs f) then xs.set f.toNat (wrap64 (rd xs t + 1)) else xs
/-- All looks from a place, so many places on. -/
def impl_leapsLeft.innerL : Nat → List Int → Int → Int → List Int
  | 0, xs, _, _ => xs
  | d + 1, xs, f, t => impl_leapsLeft.innerL d (impl_leapsLeft.stepL xs f t) f (t + 1)
/-- The row behind a place. -/
def impl_leapsLeft.at (n : Int) (leap : Int) (xs : List Int) (f : Int) : List Int := impl_leapsLeft.innerL (min (f + leap) (n + 1) - f).toNat xs f (f + 1)
theorem impl_leapsLeft.stepL_len (xs : List Int) (f t : Int) : (impl_leapsLeft.stepL xs f t).length = xs.length := by
  unfold impl_leapsLeft.stepL; split <;> simp
theorem impl_leapsLeft.innerL_len (d : Nat) : ∀ (xs : List Int) (f t : Int), (impl_leapsLeft.innerL d xs f t).length = xs.length := by
  induction d with
  | zero => intro xs f t; rfl
  | succ d ih => intro xs f t; simp only [impl_leapsLeft.innerL]; rw [ih, impl_leapsLeft.stepL_len]
def impl_leapsLeft.start (n : Nat) : List Int := (List.replicate (n + 2) (-1)).set (n + 1) 0
def impl_leapsLeft.row (n : Nat) (leap : Int) (l : List Int) : List Int := l.foldl (impl_leapsLeft.at (n : Int) leap) (impl_leapsLeft.start n)
theorem impl_leapsLeft.fold_len (n leap : Int) (l : List Int) : ∀ xs : List Int, (l.foldl (impl_leapsLeft.at n leap) xs).length = xs.length := by
  induction l with
  | nil => intro xs; rfl
  | cons a l ih => intro xs; rw [List.foldl_cons, ih]; unfold impl_leapsLeft.at; rw [impl_leapsLeft.innerL_len]
theorem impl_leapsLeft.row_len (n : Nat) (leap : Int) (l : List Int) : (impl_leapsLeft.row n leap l).length = n + 2 := by
  unfold impl_leapsLeft.row impl_leapsLeft.start
  rw [impl_leapsLeft.fold_len]; simp
def impl_leapsLeft.okB (n : Nat) (l : List Int) : Bool := l.all fun x => decide (0 ≤ x ∧ x ≤ (n : Int) + 1)
def impl_leapsLeft.f (k : Nat) (a0 : ByteArray) (a1 : Int) : Option (List Int) := (impl_stand.f k a0).bind fun l => if (a0.size ≤ 60 ∧ 0 ≤ a1 ∧ a1 ≤ 1000) ∧ (1 ≤ l.length ∧ l.length ≤ 1000) ∧ impl_leapsLeft.okB a0.size l = true then some (impl_leapsLeft.row a0.size a1 l.reverse) else none
theorem impl_leapsLeft.mono : ∀ a0 a1 k, LeO (impl_leapsLeft.f k a0 a1) (impl_leapsLeft.f (k + 1) a0 a1) := fun a0 a1 k => LeO.bind (impl_stand.mono a0 k) (fun _ => LeO.refl _)
theorem impl_leapsLeft.lit {W : World} {B : Nat} {e : TypeId} (h : W.heap[B]? = some (.cells #[.int .i64 (-1)] e)) : Kd.C (Kd.int .i64) W (some ⟨B, 0, none⟩) 1 [-1] :=
  Kd.C_of_reads (d := 0) ⟨rfl, by decide, fun _ => ⟨⟨B, 0, none⟩, rfl, fun j hj => by
    obtain rfl : j = 0 := by omega
    simp [World.cell?, h, Addr.add]⟩⟩
theorem impl_leapsLeft.third (w : World) (o1 o2 o3 : Obj) : (((w.alloc o1).alloc o2).alloc o3).heap[w.heap.size + 1 + 1]? = some o3 := by
  have := World.alloc_heap_new ((w.alloc o1).alloc o2) o3
  rwa [World.size_alloc, World.size_alloc] at this
theorem impl_leapsLeft.rep {W : World} {B cap : Nat} {e : TypeId} (h : W.heap[B]? = some (.cells #[.int .i64 (-1)] e)) (x : Int) (c : Nat) (hx : x = (c : Int)) (h1 : 1 ≤ c) (h2 : c ≤ 63) :
    Calls Tryd.prog 55 #[.slice (some ⟨B, 0, none⟩) 1 cap, .int .i64 x] W fun e w' => ∃ g cap', e = .returned (.slice (some ⟨g, 0, none⟩) c cap') ∧ (W.heap.size ≤ g ∧ g < w'.heap.size) ∧ Kd.R (Kd.int .i64) 3 w' W.heap.size (fun _ => True) (.slice (some ⟨g, 0, none⟩) c cap') (List.replicate c (-1)) ∧ Below W.heap.size W w' := by
  subst hx
  refine (slices_Repeat_int_int.one _ cap (-1) c h1 h2 W (impl_leapsLeft.lit h)).mono ?_
  rintro e w' ⟨v, rfl, ho, hb⟩
  obtain ⟨g, cap', hv, hg1, hg2, _⟩ := Kd.R_form ho (by simp; omega)
  rw [List.length_replicate] at hv
  subst hv
  exact ⟨g, cap', rfl, ⟨hg1, hg2⟩, ho, hb⟩
/-- What a round finds: the boxes of the text, the length and the row; the row itself. -/
def impl_leapsLeft.St (H : Nat) (a0 : ByteArray) (a1 : Int) (B g cap : Nat) (N0 : Nat) (xs : List Int) (W : World) : Prop :=
  (H + 3 ≤ g ∧ g < B ∧ B < N0) ∧ Boxed W H 9 (.string a0) ∧ Boxed W (H + 1) 3 (.int .i64 a1) ∧ Boxed W B 27 (.slice (some ⟨g, 0, none⟩) (a0.size + 2) cap) ∧ Kd.R (Kd.int .i64) 3 W H (fun k => k < N0) (.slice (some ⟨g, 0, none⟩) (a0.size + 2) cap) xs
theorem impl_leapsLeft.St.kept {H : Nat} {a0 : ByteArray} {a1 : Int} {B g cap N0 : Nat} {xs : List Int} {W W' : World} (h : impl_leapsLeft.St H a0 a1 B g cap N0 xs W) (hk : ∀ k, k < N0 → W'.heap[k]? = W.heap[k]?) : impl_leapsLeft.St H a0 a1 B g cap N0 xs W' :=
  ⟨h.1, (hk _ (by have := h.1; omega)).trans h.2.1, (hk _ (by have := h.1; omega)).trans h.2.2.1, (hk _ (by have := h.1; omega)).trans h.2.2.2.1, Kd.R_step h.2.2.2.2 (fun k hk1 _ => hk k hk1)⟩
theorem impl_leapsLeft.St.put {H : Nat} {a0 : ByteArray} {a1 : Int} {B g cap N0 : Nat} {xs : List Int} {W : World} (h : impl_leapsLeft.St H a0 a1 B g cap N0 xs W) (i v : Int) : impl_leapsLeft.St H a0 a1 B g cap N0 (xs.set i.toNat v) (W.setCell ⟨g, i.toNat, none⟩ (.int .i64 v)) := by
  have hf : ∀ k, k ≠ g → (W.setCell ⟨g, i.toNat, none⟩ (.int .i64 v)).heap[k]? = W.heap[k]? := fun k hk => Below.heap_setCell W _ _ k hk
  exact ⟨h.1, (hf _ (by have := h.1; omega)).trans h.2.1, (hf _ (by have := h.1; omega)).trans h.2.2.1, (hf _ (by have := h.1; omega)).trans h.2.2.2.1, Kd.R_putn h.2.2.2.2 i v⟩
theorem impl_leapsLeft.St.len {H : Nat} {a0 : ByteArray} {a1 : Int} {B g cap N0 : Nat} {xs : List Int} {W : World} (h : impl_leapsLeft.St H a0 a1 B g cap N0 xs W) : xs.length = a0.size + 2 := (Kd.R_reads' h.2.2.2.2).1.symm
theorem impl_leapsLeft.St.at {H : Nat} {a0 : ByteArray} {a1 : Int} {B g cap N0 : Nat} {xs : List Int} {W : World} (h : impl_leapsLeft.St H a0 a1 B g cap N0 xs W) (i : Int) (h0 : 0 ≤ i) (h1 : i < (a0.size : Int) + 2) : W.cell? ⟨g, i.toNat, none⟩ = some (.int .i64 (rd xs i)) ∧ W.frozen? ⟨g, i.toNat, none⟩ = false :=
  Kd.R_celln 0 h.2.2.2.2 i h0 (by omega)
theorem impl_leapsLeft.step_set {xs : List Int} {m f t : Int} (hc : t ≤ m) (h1 : 0 ≤ rd xs t) (h2 : rd xs f < 0 ∨ wrap64 (rd xs t + 1) < rd xs f) : impl_leapsLeft.innerL (m + 1 - t).toNat xs f t = impl_leapsLeft.innerL (m + 1 - (t + 1)).toNat (xs.set f.toNat (wrap64 (rd xs t + 1))) f (t + 1) := by
  rw [show (m + 1 - t).toNat = (m + 1 - (t + 1)).toNat + 1 by omega]
  simp only [impl_leapsLeft.innerL]
  unfold impl_leapsLeft.stepL
  rw [if_pos ⟨h1, h2⟩]
theorem impl_leapsLeft.step_not {xs : List Int} {m f t : Int} (hc : t ≤ m) (h : ¬ (0 ≤ rd xs t ∧ (rd xs f < 0 ∨ wrap64 (rd xs t + 1) < rd xs f))) : impl_leapsLeft.innerL (m + 1 - t).toNat xs f t = impl_leapsLeft.innerL (m + 1 - (t + 1)).toNat xs f (t + 1) := by
  rw [show (m + 1 - t).toNat = (m + 1 - (t + 1)).toNat + 1 by omega]
  simp only [impl_leapsLeft.innerL]
  unfold impl_leapsLeft.stepL
  rw [if_neg h]
theorem impl_leapsLeft.kpDrew (g n : Nat) (W : World) : slices_Backward_int_int.Kp g n W W.drew := ⟨Nat.le_refl _, fun _ _ _ => rfl⟩
theorem impl_leapsLeft.kpSet (g n : Nat) (W : World) (i : Nat) (v : Value) : slices_Backward_int_int.Kp g n W (W.setCell ⟨g, i, none⟩ v) := ⟨by simp, fun k _ hk => Below.heap_setCell W _ _ k hk⟩
def impl_leapsLeft.noDefer (ops : Array Oper) : Bool := ops.all fun o => match o.op with | .defer _ => false | _ => true
theorem impl_leapsLeft.wpIn_inRound {F : Fence} {n : Nat} {P : Program} {o : Oper} {a : Act} {w : World} {K : Act → World → Prop} {Q : Exit → Act → World → Prop} (l : Nat) (ho : ∀ c, o.op ≠ .defer c) (h : o.wpIn F n P a w K Q) : o.wpIn (F.inRound l) n P a w K Q := by
  unfold Oper.wpIn at h ⊢
  rw [Oper.semAt_eq _ _ _ ho] at h ⊢
  refine ⟨h.1, ?_⟩
  have h2 := h.2
  generalize (execOp a.eval o).run P w = r at h2 ⊢
  cases r with
  | ok x w' => cases x <;> exact h2
  | halt x w' => cases x <;> exact h2
theorem impl_leapsLeft.wpAnyIn_inRound {F : Fence} {n : Nat} {P : Program} {md : Region.Mode} {ops : Array Oper} {Q : Exit → Act → World → Prop} (l : Nat) (hd : impl_leapsLeft.noDefer ops = true) :
    ∀ (fuel : Nat) (listed : Array Bool) (a : Act) (w : World), wpAnyIn F n P md ops Q fuel listed a w → wpAnyIn (F.inRound l) n P md ops Q fuel listed a w := by
  have hnd : ∀ (i : Nat) (o : Oper), ops[i]? = some o → ∀ c, o.op ≠ .defer c := fun i o hi c hc => by
    unfold impl_leapsLeft.noDefer at hd
    rw [Array.all_eq_true] at hd
    obtain ⟨hlt, he⟩ := Array.getElem?_eq_some_iff.1 hi
    have := hd i hlt
    rw [he, hc] at this
    cases this
  intro fuel
  induction fuel with
  | zero => intro listed a w h; exact h
  | succ fuel ih =>
    intro listed a w h
    refine ⟨h.1, fun i hi => ?_⟩
    have h2 := h.2 i hi
    unfold wpOpIn at h2 ⊢
    cases ho : ops[i]? with
    | none => rw [ho] at h2; simp only at h2 ⊢; exact ih _ _ _ h2
    | some o =>
      rw [ho] at h2
      simp only at h2 ⊢
      split at h2
      · rename_i hw
        rw [if_pos hw]
        exact impl_leapsLeft.wpIn_inRound l (hnd i o ho) (Oper.wpIn_mono (fun a w h => ih _ _ _ h) h2)
      · rename_i hw
        rw [if_neg hw]
        exact ⟨h2.1, ih _ _ _ h2.2⟩
theorem impl_leapsLeft.region_inRound {F : Fence} {n : Nat} {P : Program} {ops : Array Oper} {Q : Exit → Act → World → Prop} {id l : Nat} {a : Act} {w : World} (hm : P.follows .mixedOrders = true) (hd : impl_leapsLeft.noDefer ops = true)
    (h : wpAnyIn F n P .any ops Q ops.size (Array.replicate ops.size false) a w.drew) : (Code.region id ops true).wpIn (F.inRound l) n P Q a w :=
  wpIn_region_any hm (impl_leapsLeft.wpAnyIn_inRound l hd _ _ _ _ h)
theorem impl_leapsLeft.standF (k : Nat) (a0 : ByteArray) (l : List Int) (W : World) (h : impl_stand.f k a0 = some l) (h1 : 1 ≤ l.length) :
    Calls Tryd.prog 54 #[.string a0] W fun e w' => ∃ g cap, e = .returned (.slice (some ⟨g, 0, none⟩) l.length cap) ∧ (W.heap.size ≤ g ∧ g < w'.heap.size) ∧ Kd.R (Kd.int .i64) 3 w' W.heap.size (fun _ => True) (.slice (some ⟨g, 0, none⟩) l.length cap) l ∧ Below W.heap.size W w' := by
  refine (impl_stand.calls k a0 l W h).mono ?_
  rintro e w' ⟨v, rfl, ho, hb⟩
  obtain ⟨g, cap', hv, hg1, hg2, _⟩ := Kd.R_form ho (by omega)
  subst hv
  exact ⟨g, cap', rfl, ⟨hg1, hg2⟩, ho, hb⟩
theorem impl_leapsLeft.made {w w4 : World} {a0 : ByteArray} {a1 : Int} {g cap : Nat} {xs : List Int}
    (hg : (((w.alloc (.cells #[.string a0] 9)).alloc (.cells #[.int .i64 a1] 3)).alloc (.cells #[.int .i64 (-1)] 3)).heap.size ≤ g ∧ g < w4.heap.size)
    (ho : Kd.R (Kd.int .i64) 3 w4 (((w.alloc (.cells #[.string a0] 9)).alloc (.cells #[.int .i64 a1] 3)).alloc (.cells #[.int .i64 (-1)] 3)).heap.size (fun _ => True) (.slice (some ⟨g, 0, none⟩) (a0.size + 2) cap) xs)
    (hb : Below (((w.alloc (.cells #[.string a0] 9)).alloc (.cells #[.int .i64 a1] 3)).alloc (.cells #[.int .i64 (-1)] 3)).heap.size (((w.alloc (.cells #[.string a0] 9)).alloc (.cells #[.int .i64 a1] 3)).alloc (.cells #[.int .i64 (-1)] 3)) w4) :
    impl_leapsLeft.St w.heap.size a0 a1 w4.heap.size g cap (w4.heap.size + 1) xs (w4.alloc (.cells #[.slice (some ⟨g, 0, none⟩) (a0.size + 2) cap] 27)) ∧ Below w.heap.size w (w4.alloc (.cells #[.slice (some ⟨g, 0, none⟩) (a0.size + 2) cap] 27)) := by
  have s1 := World.size_alloc (w := w) (o := (.cells #[.string a0] 9))
  simp only [World.size_alloc] at hg ho hb
  have b1 := Boxed.new w 9 (.string a0)
  have b2 := Boxed.new (w.alloc (.cells #[.string a0] 9)) 3 (.int .i64 a1)
  rw [World.size_alloc] at b2
  have hsz := hb.size
  simp only [World.size_alloc] at hsz
  have c1 : Boxed w4 w.heap.size 9 (.string a0) := (hb.block _ (by omega)).trans ((b1.alloc _).alloc _)
  have c2 : Boxed w4 (w.heap.size + 1) 3 (.int .i64 a1) := (hb.block _ (by omega)).trans (b2.alloc _)
  refine ⟨⟨⟨by omega, by omega, by omega⟩, c1.alloc _, c2.alloc _, Boxed.new w4 _ _, ?_⟩, ?_⟩
  · refine Kd.R_mono (Kd.R_bound (Kd.R_lower (Kd.R_alloc ho _) (by omega))) (fun k hk => ?_)
    have := hk.2.2.1
    rwa [World.size_alloc] at this
  · exact below_alloc (below_weaken (below_alloc (below_alloc (below_alloc (Below.refl _ _) _) _) _) (by omega) hb) _
section
attribute [local go_sem] Oper.semAt_some
set_option maxHeartbeats 8000000 in
set_option maxRecDepth 100000 in
theorem impl_leapsLeft.calls (k : Nat) (a0 : ByteArray) (a1 : Int) (r : List Int) (w : World) (h : impl_leapsLeft.f k a0 a1 = some r) :
    Calls Tryd.prog 38 #[.string a0, .int .i64 a1] w fun e w' => ∃ v0_, e = .returned v0_ ∧ Kd.R (Kd.int .i64) 3 w' w.heap.size (fun _ => True) v0_ r ∧ Below w.heap.size w w' := by
  obtain ⟨l, hl, h⟩ := Option.bind_eq_some_iff.mp h
  by_cases c : (a0.size ≤ 60 ∧ 0 ≤ a1 ∧ a1 ≤ 1000) ∧ (1 ≤ l.length ∧ l.length ≤ 1000) ∧ impl_leapsLeft.okB a0.size l = true
  case neg => rw [if_neg c] at h; cases h
  rw [if_pos c] at h
  have HR := Aside0.mk (Option.some.inj h)
  have HC := Aside0.mk c
  have HL := Aside0.mk hl
  clear h hl
  have hw2 : wrap64 ((a0.size : Int) + 2) = ((a0.size + 2 : Nat) : Int) := by unfold wrap64; omega
  have hw2' : IntKind.i64.wrap ((a0.size : Int) + 2) = ((a0.size + 2 : Nat) : Int) := (i64_w _).trans hw2
  have hw1 : wrap64 ((a0.size : Int) + 1) = ((a0.size + 1 : Nat) : Int) := by unfold wrap64; omega
  have hw1' : IntKind.i64.wrap ((a0.size : Int) + 1) = ((a0.size + 1 : Nat) : Int) := (i64_w _).trans hw1
  clear c
  refine (callsIn_wide (n := 5)).1 ?_
  refine callsIn_of_wp_marks Tryd.func38 rfl trivial ?_ rfl
  simp only [Tryd.ntmps38, List.size_toArray, List.length_cons, List.length_nil, Nat.reduceAdd, Nat.reduceSub, Array.replicate_succ, Array.replicate_zero, List.push_toArray, List.append_toArray, List.nil_append, List.cons_append]
  gi_wp2_with (first | (refine ⟨trivial, ?_⟩; gi_at_call 55; refine (callsIn_wide.2 (impl_leapsLeft.rep (impl_leapsLeft.third w _ _ _) ((a0.size : Int) + 2) (a0.size + 2) (by omega) (by omega) (by have := HC.out; omega))).mono ?_; rintro e w4 ⟨g, cap1, rfl, hg, ho, hb⟩; obtain ⟨hSt5, hB5⟩ := impl_leapsLeft.made hg ho hb; have hr5 := hSt5.2.1.cell; have hc5 := hSt5.at ((a0.size : Int) + 1) (by omega) (by omega); have ht5 : ((a0.size : Int) + 1).toNat = a0.size + 1 := (by omega); rw [ht5] at hc5; have hd5 := hc5.1; have hf5 := hc5.2; have hSt6 := hSt5.put ((a0.size : Int) + 1) 0; rw [ht5] at hSt6; have HS := Aside0.mk hSt6; have HB := Aside0.mk (Below.setCell (p := ⟨g, a0.size + 1, none⟩) hB5 (by have := hSt5.1; show _ ≤ g; omega) (.int .i64 0)); clear ho hb hg hSt5 hB5 hc5 hSt6) | (refine ⟨trivial, ?_⟩; gi_at_call 54; refine (callsIn_wide.2 (impl_leapsLeft.standF k a0 l _ HL.out (by have := HC.out; omega))).mono ?_; rintro e w7 ⟨s, cap2, rfl, hs, ho, hb⟩; have HO := Aside0.mk ho; have n1_ := Aside0.mk (below_step HB.out hb); have n2_ := Aside0.mk (HS.out.kept (fun j hj => hb.block j (by simp; omega))); have HG := Aside0.mk hs; have HW := Aside0.mk hb.size; clear HB HS ho hb hs hr5 hd5 hf5; have HB := n1_; have HS := n2_; clear n1_ n2_) | (refine ⟨trivial, ?_⟩; gi_at_call 56; refine (slices_Backward_int_int.back_in Fence.wide _ trivial rfl _ _ _ _).mono ?_; rintro e w8 ⟨rfl, rfl⟩; have n1_ := Aside0.mk (below_alloc HB.out (.cells #[.slice (some ⟨s, 0, none⟩) l.length cap2] 27)); have n2_ := Aside0.mk (HS.out.kept (W' := w7.alloc (.cells #[.slice (some ⟨s, 0, none⟩) l.length cap2] 27)) (fun j hj => (below_alloc (Below.refl _ _) _).block j (by have := HW.out; simp at this; omega))); clear HB HS; have HB := n1_; have HS := n2_; clear n1_ n2_))
  have hbox := Boxed.new w7 27 (.slice (some ⟨s, 0, none⟩) l.length cap2)
  have hHW := HW.out
  simp only [World.size_setCell, World.size_alloc] at hHW
  have hHG := HG.out
  simp only [World.size_setCell, World.size_alloc] at hHG
  have hHC := HC.out
  have hok := List.all_eq_true.1 hHC.2.2
  have hOK : ∀ j, j < l.length → (0 ≤ l[j]?.getD 0 ∧ l[j]?.getD 0 ≤ (a0.size : Int) + 1) := fun j hj => by
    rw [List.getElem?_eq_getElem hj]; exact of_decide_eq_true (hok _ (List.getElem_mem hj))
  have hcells : ∀ j, j < l.length → (w7.alloc (.cells #[.slice (some ⟨s, 0, none⟩) l.length cap2] 27)).cell? ⟨s, 0 + j, none⟩ = some (.int .i64 (l[j]?.getD 0)) := fun j hj => by
    have h1 := (Kd.R_celln 0 (Kd.R_alloc HO.out (.cells #[.slice (some ⟨s, 0, none⟩) l.length cap2] 27)) (j : Int) (by omega) (by omega)).1
    rw [show (j : Int).toNat = 0 + j by omega] at h1
    rw [h1]; simp [rdOf]
  refine wpIn_rangeFunc_ownF rfl (by omega) (gf := 61) (lb := #[.pointer (some ⟨w7.heap.size, 0, none⟩)]) rfl trivial (enters_of Tryd.func61 (by kernel_rfl) rfl)
    (slices_Backward_int_int.stops (fun v => 0 ≤ v ∧ v ≤ (a0.size : Int) + 1) Fence.wide 4 trivial rfl (by omega) w7.heap.size g (w7.heap.size + 1) s l.length cap2 l rfl hHC.2.1.2 hOK (w7.alloc (.cells #[.slice (some ⟨s, 0, none⟩) l.length cap2] 27)) (by simp) (by omega) (by omega) (by have := HS.out.1; omega) (by have := HS.out.1; omega) hbox.cell hcells)
    (fun h1 h2 => h1.trans h2) (fun W l_ o o' hl ho hc hw => ⟨by simp, fun k hk _ => World.putObj_heap_other (by simp at hl; omega)⟩) (Below.refl _ _) (fun _ => rfl)
    (fun (pre : List { x : Nat × Int // 0 ≤ x.2 ∧ x.2 ≤ (a0.size : Int) + 1 }) W => impl_leapsLeft.St w.heap.size a0 a1 w4.heap.size g cap1 (w4.heap.size + 1) ((pre.map (fun x => x.1.2)).foldl (impl_leapsLeft.at (a0.size : Int) a1) (impl_leapsLeft.start a0.size)) W ∧ Below w.heap.size w W)
    (fun _ _ _ => False)
    (OwnFrom.and (by intro pre W W' row hs hg hr; exact hs.kept (fun k hk => hg.block k (by have := hs.2.2.2.1.lt; omega) (fun e => by have := (hr k e.symm).1; simp at this; omega))) (ownFrom_below (Nat.le_refl _) HB.out.size))
    (fun _ _ _ _ _ hs _ _ => hs)
    ⟨HS.out, HB.out⟩
    (fun x => { tmps := #[Value.string a0, Value.int .i64 a1, Value.pointer (some ⟨w.heap.size, 0, none⟩), Value.pointer (some ⟨w.heap.size + 1, 0, none⟩), Value.slice none 0 0, Value.pointer (some ⟨w4.heap.size, 0, none⟩), undef, Value.int .i64 x.1.2, undef, Value.slice (some ⟨w.heap.size + 1 + 1, 0, none⟩) 1 1, Value.string a0, Value.int .i64 (a0.size : Int), Value.int .i64 ((a0.size : Int) + 2), Value.slice (some ⟨g, 0, none⟩) (a0.size + 2) cap1, Value.slice (some ⟨g, 0, none⟩) (a0.size + 2) cap1, Value.string a0, Value.int .i64 (a0.size : Int), Value.int .i64 ((a0.size : Int) + 1), Value.pointer (some ⟨g, a0.size + 1, none⟩), Value.string a0, Value.slice (some ⟨s, 0, none⟩) l.length cap2, Value.func (.func 61) #[] #[.pointer (some ⟨w7.heap.size, 0, none⟩)], Value.int .i64 (x.1.1 : Int), Value.int .i64 x.1.2, undef, undef, undef, undef, undef, undef, undef, undef, undef, undef, undef, undef, undef, undef, undef, undef, undef, undef, undef, undef, undef, undef, undef, undef, undef, undef, undef, undef, undef, undef, undef, undef, undef, undef, undef, undef, undef, undef, undef, undef, undef, undef, undef, undef, undef, undef], defers := [] }) ?assign ?body ?done ?stop
  case assign =>
    intro l_ x W K hK
    gi_wp2
    exact hK
  case body =>
    rintro l_ pre ⟨⟨i_, f⟩, hx⟩ W ⟨hS, hB⟩ hlt
    obtain ⟨xs, hxs⟩ : ∃ xs, xs = (pre.map (fun x => x.1.2)).foldl (impl_leapsLeft.at (a0.size : Int) a1) (impl_leapsLeft.start a0.size) := ⟨_, rfl⟩
    have HX := Aside0.mk (show (((pre ++ [⟨(i_, f), hx⟩] : List { x : Nat × Int // 0 ≤ x.2 ∧ x.2 ≤ (a0.size : Int) + 1 }).map (fun x => x.1.2)).foldl (impl_leapsLeft.at (a0.size : Int) a1) (impl_leapsLeft.start a0.size) = impl_leapsLeft.at (a0.size : Int) a1 xs f) by rw [List.map_append, List.foldl_append, ← hxs]; rfl)
    rw [← hxs] at hS
    clear hxs hlt hcells hOK hok hbox
    have hf1 : wrap64 (f + 1) = f + 1 := by simp only at hx; unfold wrap64; omega
    have hf1' : IntKind.i64.wrap (f + 1) = f + 1 := (i64_w _).trans hf1
    gi_wp2
    obtain ⟨m, hm⟩ : ∃ m : Int, min (f + a1) ((a0.size : Int) + 1) = m := ⟨_, rfl⟩
    have hif : (if (a0.size : Int) + 1 < f + a1 then (a0.size : Int) + 1 else f + a1) = m := by split <;> omega
    have hmb : m ≤ (a0.size : Int) + 1 := by omega
    gi_loopw [8] (fun v W' => ∃ (t : Int) (ys : List Int), v = .int .i64 t ∧ Aside0 (f + 1 ≤ t ∧ t ≤ (a0.size : Int) + 2) ∧ Aside0 (impl_leapsLeft.St w.heap.size a0 a1 w4.heap.size g cap1 (w4.heap.size + 1) ys W') ∧ Aside0 (Below w.heap.size w W') ∧ Aside0 (KeepsOthers W W') ∧ Aside0 (slices_Backward_int_int.Kp g (w7.heap.size + 1) W W') ∧ Aside0 (impl_leapsLeft.innerL (m + 1 - t).toNat ys f t = impl_leapsLeft.at (a0.size : Int) a1 xs f))
      (fun v _ => ((a0.size : Int) + 2 - intOf v).toNat)
    case atStart => exact ⟨f + 1, xs, rfl, ⟨by simp only at hx; omega⟩, ⟨hS⟩, ⟨hB⟩, ⟨KeepsOthers.refl _⟩, ⟨slices_Backward_int_int.Kp.refl _ _ _⟩, ⟨by unfold impl_leapsLeft.at; rw [hm]; congr 1; omega⟩⟩
    case round =>
      obtain ⟨t, ys, rfl, HT, HS1, HB1, HK1, HP1, HL1⟩ := hrel
      have hr1 := HS1.out.2.1.cell
      have hl1 := HS1.out.2.2.1.cell
      have ho1 := HS1.out.2.2.2.1.cell
      have hw3 : wrap64 (f + a1) = f + a1 := by simp only at hx; unfold wrap64; omega
      have hw3' : IntKind.i64.wrap (f + a1) = f + a1 := (i64_w _).trans hw3
      by_cases hc : t ≤ m
      · obtain ⟨hT1, hT2⟩ := HS1.out.at t (by simp only at hx; have := HT.out; omega) (by omega)
        obtain ⟨hF1, hF2⟩ := HS1.out.at f (by simp only at hx; omega) (by simp only at hx; omega)
        have b1 : 0 ≤ t := by have := HT.out; simp only at hx; omega
        have b2 : t < (a0.size : Int) + 2 := by omega
        have b3 : 0 ≤ f := hx.1
        have b4 : f < (a0.size : Int) + 2 := by simp only at hx; omega
        gi_wp2
        by_cases c1 : 0 ≤ rd ys t
        · by_cases c2 : rd ys f < 0
          · have e1 : decide (0 ≤ rd ys t) = true := decide_eq_true c1
            have e2 : decide (rd ys f < 0) = true := decide_eq_true c2
            refine impl_leapsLeft.region_inRound (by kernel_rfl) (by kernel_rfl) ?_
            refine wpAnyIn_take (i := 1) (v := ?_) rfl rfl (by kernel_rfl) (by kernel_rfl) (by kernel_rfl) (fun _ _ _ h => h) ⟨Or.inl ⟨by rfl, ?_⟩, fun _ => rfl⟩ ?_
            rotate_left
            · intro w_; go_simp; first | done | with_reducible rfl | (rw [if_pos (by omega)])
            go_simp
            refine wpAnyIn_ready (rs := [0]) (by kernel_rfl) (by simp) ?_
            refine AllReadyIn.cons rfl (fun K hK => ?_) ?_
            rotate_left
            · exact AllReadyIn.nil
            go_simp
            refine hK _ _ ?_; clear hK K
            refine wpAnyIn_take (i := 2) (v := ?_) rfl rfl (by kernel_rfl) (by kernel_rfl) (by kernel_rfl) (fun _ _ _ h => h) ⟨Or.inl ⟨by rfl, ?_⟩, fun _ => rfl⟩ ?_
            rotate_left
            · intro w_; go_simp; first | done | with_reducible rfl | (rw [if_pos (by omega)])
            go_simp
            refine wpAnyIn_ready (rs := [3]) (by kernel_rfl) (by simp) ?_
            refine AllReadyIn.cons rfl (fun K hK => ?_) ?_
            rotate_left
            · exact AllReadyIn.nil
            go_simp
            refine hK _ _ ?_; clear hK K
            refine wpAnyIn_take (i := 4) (v := ?_) rfl rfl (by kernel_rfl) (by kernel_rfl) (by kernel_rfl) (fun _ _ _ h => h) ⟨Or.inl ⟨by rfl, ?_⟩, fun _ => rfl⟩ ?_
            rotate_left
            · intro w_; go_simp; first | done | with_reducible rfl | (rw [if_pos (by omega)])
            go_simp
            refine wpAnyIn_take (i := 5) (v := ?_) rfl rfl (by kernel_rfl) (by kernel_rfl) (by kernel_rfl) (fun _ _ _ h => h) ⟨Or.inl ⟨by rfl, ?_⟩, fun _ => rfl⟩ ?_
            rotate_left
            · intro w_; go_simp; first | done | with_reducible rfl | (rw [if_pos (by omega)])
            go_simp
            refine wpAnyIn_take (i := 7) (v := ?_) rfl rfl (by kernel_rfl) (by kernel_rfl) (by kernel_rfl) (fun _ _ _ h => h) ⟨Or.inl ⟨by rfl, ?_⟩, fun _ => rfl⟩ ?_
            rotate_left
            · intro w_; go_simp; first | done | with_reducible rfl | (rw [if_pos (by omega)])
            go_simp
            refine wpAnyIn_ready (rs := [6]) (by kernel_rfl) (by simp) ?_
            refine AllReadyIn.cons rfl (fun K hK => ?_) ?_
            rotate_left
            · exact AllReadyIn.nil
            go_simp
            refine hK _ _ ?_; clear hK K
            refine wpAnyIn_take (i := 8) (v := ?_) rfl rfl (by kernel_rfl) (by kernel_rfl) (by kernel_rfl) (fun _ _ _ h => h) ⟨Or.inl ⟨by rfl, ?_⟩, fun _ => rfl⟩ ?_
            rotate_left
            · intro w_; go_simp; first | done | with_reducible rfl | (rw [if_pos (by omega)])
            go_simp
            refine wpAnyIn_ready (rs := [9]) (by kernel_rfl) (by simp) ?_
            refine AllReadyIn.cons rfl (fun K hK => ?_) ?_
            rotate_left
            · exact AllReadyIn.nil
            go_simp
            refine hK _ _ ?_; clear hK K
            refine wpAnyIn_take (i := 10) (v := ?_) rfl rfl (by kernel_rfl) (by kernel_rfl) (by kernel_rfl) (fun _ _ _ h => h) ⟨Or.inl ⟨by rfl, ?_⟩, fun _ => rfl⟩ ?_
            rotate_left
            · intro w_; go_simp; first | done | with_reducible rfl | (rw [if_pos (by omega)])
            go_simp
            refine wpAnyIn_take (i := 11) (v := ?_) rfl rfl (by kernel_rfl) (by kernel_rfl) (by kernel_rfl) (fun _ _ _ h => h) ⟨Or.inl ⟨by rfl, ?_⟩, fun _ => rfl⟩ ?_
            rotate_left
            · intro w_; go_simp; first | done | with_reducible rfl | (rw [if_pos (by omega)])
            go_simp
            refine wpAnyIn_take (i := 12) (v := undef) rfl rfl (by kernel_rfl) (by kernel_rfl) (by kernel_rfl) (fun _ _ _ h => h) ⟨Or.inr ⟨by rfl, rfl⟩, fun _ => rfl⟩ ?_
            go_simp
            refine wpAnyIn_take (i := 13) (v := undef) rfl rfl (by kernel_rfl) (by kernel_rfl) (by kernel_rfl) (fun _ _ _ h => h) ⟨Or.inr ⟨by rfl, rfl⟩, fun _ => rfl⟩ ?_
            go_simp
            refine wpAnyIn_take (i := 14) (v := undef) rfl rfl (by kernel_rfl) (by kernel_rfl) (by kernel_rfl) (fun _ _ _ h => h) ⟨Or.inr ⟨by rfl, rfl⟩, fun _ => rfl⟩ ?_
            go_simp
            refine wpAnyIn_take (i := 15) (v := undef) rfl rfl (by kernel_rfl) (by kernel_rfl) (by kernel_rfl) (fun _ _ _ h => h) ⟨Or.inr ⟨by rfl, rfl⟩, fun _ => rfl⟩ ?_
            go_simp
            refine wpAnyIn_take (i := 16) (v := undef) rfl rfl (by kernel_rfl) (by kernel_rfl) (by kernel_rfl) (fun _ _ _ h => h) ⟨Or.inr ⟨by rfl, rfl⟩, fun _ => rfl⟩ ?_
            go_simp
            refine wpAnyIn_take (i := 17) (v := undef) rfl rfl (by kernel_rfl) (by kernel_rfl) (by kernel_rfl) (fun _ _ _ h => h) ⟨Or.inr ⟨by rfl, rfl⟩, fun _ => rfl⟩ ?_
            go_simp
            refine wpAnyIn_take (i := 18) (v := undef) rfl rfl (by kernel_rfl) (by kernel_rfl) (by kernel_rfl) (fun _ _ _ h => h) ⟨Or.inr ⟨by rfl, rfl⟩, fun _ => rfl⟩ ?_
            go_simp
            refine wpAnyIn_take (i := 19) (v := undef) rfl rfl (by kernel_rfl) (by kernel_rfl) (by kernel_rfl) (fun _ _ _ h => h) ⟨Or.inr ⟨by rfl, rfl⟩, fun _ => rfl⟩ ?_
            go_simp
            refine wpAnyIn_take (i := 20) (v := undef) rfl rfl (by kernel_rfl) (by kernel_rfl) (by kernel_rfl) (fun _ _ _ h => h) ⟨Or.inr ⟨by rfl, rfl⟩, fun _ => rfl⟩ ?_
            go_simp
            refine wpAnyIn_take (i := 21) (v := undef) rfl rfl (by kernel_rfl) (by kernel_rfl) (by kernel_rfl) (fun _ _ _ h => h) ⟨Or.inr ⟨by rfl, rfl⟩, fun _ => rfl⟩ ?_
            go_simp
            refine wpAnyIn_take (i := 22) (v := ?_) rfl rfl (by kernel_rfl) (by kernel_rfl) (by kernel_rfl) (fun _ _ _ h => h) ⟨Or.inl ⟨by rfl, ?_⟩, fun _ => rfl⟩ ?_
            rotate_left
            · intro w_; go_simp; first | done | with_reducible rfl | (rw [if_pos (by omega)])
            go_simp
            refine wpAnyIn_take (i := 23) (v := ?_) rfl rfl (by kernel_rfl) (by kernel_rfl) (by kernel_rfl) (fun _ _ _ h => h) ⟨Or.inl ⟨by rfl, ?_⟩, fun _ => rfl⟩ ?_
            rotate_left
            · intro w_; go_simp; first | done | with_reducible rfl | (rw [if_pos (by omega)])
            go_simp
            refine wpAnyIn_done (by kernel_rfl) ?_ _
            gi_wp2
            refine impl_leapsLeft.region_inRound (by kernel_rfl) (by kernel_rfl) ?_
            refine wpAnyIn_take (i := 1) (v := ?_) rfl rfl (by kernel_rfl) (by kernel_rfl) (by kernel_rfl) (fun _ _ _ h => h) ⟨Or.inl ⟨by rfl, ?_⟩, fun _ => rfl⟩ ?_
            rotate_left
            · intro w_; go_simp; first | done | with_reducible rfl | (rw [if_pos (by omega)])
            go_simp
            refine wpAnyIn_take (i := 3) (v := ?_) rfl rfl (by kernel_rfl) (by kernel_rfl) (by kernel_rfl) (fun _ _ _ h => h) ⟨Or.inl ⟨by rfl, ?_⟩, fun _ => rfl⟩ ?_
            rotate_left
            · intro w_; go_simp; first | done | with_reducible rfl | (rw [if_pos (by omega)])
            go_simp
            refine wpAnyIn_ready (rs := [0, 2]) (by kernel_rfl) (by simp) ?_
            refine AllReadyIn.cons rfl (fun K hK => ?_) ?_
            · go_simp
              refine hK _ _ ?_; clear hK K
              refine wpAnyIn_ready (rs := [2]) (by kernel_rfl) (by simp) ?_
              refine AllReadyIn.cons rfl (fun K hK => ?_) ?_
              rotate_left
              · exact AllReadyIn.nil
              go_simp
              refine hK _ _ ?_; clear hK K
              refine wpAnyIn_take (i := 4) (v := ?_) rfl rfl (by kernel_rfl) (by kernel_rfl) (by kernel_rfl) (fun _ _ _ h => h) ⟨Or.inl ⟨by rfl, ?_⟩, fun _ => rfl⟩ ?_
              rotate_left
              · intro w_; go_simp; first | done | with_reducible rfl | (rw [if_pos (by omega)])
              go_simp
              refine wpAnyIn_ready (rs := [5]) (by kernel_rfl) (by simp) ?_
              refine AllReadyIn.cons rfl (fun K hK => ?_) ?_
              rotate_left
              · exact AllReadyIn.nil
              go_simp
              refine hK _ _ ?_; clear hK K
              refine wpAnyIn_take (i := 6) (v := ?_) rfl rfl (by kernel_rfl) (by kernel_rfl) (by kernel_rfl) (fun _ _ _ h => h) ⟨Or.inl ⟨by rfl, ?_⟩, fun _ => rfl⟩ ?_
              rotate_left
              · intro w_; go_simp; first | done | with_reducible rfl | (rw [if_pos (by omega)])
              go_simp
              refine wpAnyIn_take (i := 7) (v := ?_) rfl rfl (by kernel_rfl) (by kernel_rfl) (by kernel_rfl) (fun _ _ _ h => h) ⟨Or.inl ⟨by rfl, ?_⟩, fun _ => rfl⟩ ?_
              rotate_left
              · intro w_; go_simp; first | done | with_reducible rfl | (rw [if_pos (by omega)])
              go_simp
              refine wpAnyIn_ready (rs := [8]) (by kernel_rfl) (by simp) ?_
              refine AllReadyIn.cons rfl (fun K hK => ?_) ?_
              rotate_left
              · exact AllReadyIn.nil
              go_simp
              refine hK _ _ ?_; clear hK K
              refine wpAnyIn_done (by kernel_rfl) ?_ _
              gi_wp2
              go_roundw
              case rel => exact ⟨t + 1, _, rfl, ⟨by have := HT.out; omega⟩, ⟨(HS1.out.kept (W' := wr.drew.drew) (fun _ _ => rfl)).put f _⟩, ⟨Below.setCell (p := ⟨g, f.toNat, none⟩) (below_drew1 (below_drew1 HB1.out)) (by have := HS1.out.1; show _ ≤ g; omega) _⟩, ⟨((HK1.out.trans (KeepsOthers.drew _)).trans (KeepsOthers.drew _)).trans (KeepsOthers.setCell _ _ _)⟩, ⟨((HP1.out.trans (impl_leapsLeft.kpDrew _ _ _)).trans (impl_leapsLeft.kpDrew _ _ _)).trans (impl_leapsLeft.kpSet _ _ _ _ _)⟩, ⟨(impl_leapsLeft.step_set hc c1 (.inl c2)).symm.trans HL1.out⟩⟩
              case measure => first | (simp [intOf]; done) | (simp [intOf]; omega)
            refine AllReadyIn.cons rfl (fun K hK => ?_) ?_
            · go_simp
              refine hK _ _ ?_; clear hK K
              refine wpAnyIn_take (i := 4) (v := ?_) rfl rfl (by kernel_rfl) (by kernel_rfl) (by kernel_rfl) (fun _ _ _ h => h) ⟨Or.inl ⟨by rfl, ?_⟩, fun _ => rfl⟩ ?_
              rotate_left
              · intro w_; go_simp; first | done | with_reducible rfl | (rw [if_pos (by omega)])
              go_simp
              refine wpAnyIn_ready (rs := [0, 5]) (by kernel_rfl) (by simp) ?_
              refine AllReadyIn.cons rfl (fun K hK => ?_) ?_
              · go_simp
                refine hK _ _ ?_; clear hK K
                refine wpAnyIn_ready (rs := [5]) (by kernel_rfl) (by simp) ?_
                refine AllReadyIn.cons rfl (fun K hK => ?_) ?_
                rotate_left
                · exact AllReadyIn.nil
                go_simp
                refine hK _ _ ?_; clear hK K
                refine wpAnyIn_take (i := 6) (v := ?_) rfl rfl (by kernel_rfl) (by kernel_rfl) (by kernel_rfl) (fun _ _ _ h => h) ⟨Or.inl ⟨by rfl, ?_⟩, fun _ => rfl⟩ ?_
                rotate_left
                · intro w_; go_simp; first | done | with_reducible rfl | (rw [if_pos (by omega)])
                go_simp
                refine wpAnyIn_take (i := 7) (v := ?_) rfl rfl (by kernel_rfl) (by kernel_rfl) (by kernel_rfl) (fun _ _ _ h => h) ⟨Or.inl ⟨by rfl, ?_⟩, fun _ => rfl⟩ ?_
                rotate_left
                · intro w_; go_simp; first | done | with_reducible rfl | (rw [if_pos (by omega)])
                go_simp
                refine wpAnyIn_ready (rs := [8]) (by kernel_rfl) (by simp) ?_
                refine AllReadyIn.cons rfl (fun K hK => ?_) ?_
                rotate_left
                · exact AllReadyIn.nil
                go_simp
                refine hK _ _ ?_; clear hK K
                refine wpAnyIn_done (by kernel_rfl) ?_ _
                gi_wp2
                go_roundw
                case rel => exact ⟨t + 1, _, rfl, ⟨by have := HT.out; omega⟩, ⟨(HS1.out.kept (W' := wr.drew.drew) (fun _ _ => rfl)).put f _⟩, ⟨Below.setCell (p := ⟨g, f.toNat, none⟩) (below_drew1 (below_drew1 HB1.out)) (by have := HS1.out.1; show _ ≤ g; omega) _⟩, ⟨((HK1.out.trans (KeepsOthers.drew _)).trans (KeepsOthers.drew _)).trans (KeepsOthers.setCell _ _ _)⟩, ⟨((HP1.out.trans (impl_leapsLeft.kpDrew _ _ _)).trans (impl_leapsLeft.kpDrew _ _ _)).trans (impl_leapsLeft.kpSet _ _ _ _ _)⟩, ⟨(impl_leapsLeft.step_set hc c1 (.inl c2)).symm.trans HL1.out⟩⟩
                case measure => first | (simp [intOf]; done) | (simp [intOf]; omega)
              refine AllReadyIn.cons rfl (fun K hK => ?_) ?_
              · go_simp
                refine hK _ _ ?_; clear hK K
                refine wpAnyIn_take (i := 6) (v := ?_) rfl rfl (by kernel_rfl) (by kernel_rfl) (by kernel_rfl) (fun _ _ _ h => h) ⟨Or.inl ⟨by rfl, ?_⟩, fun _ => rfl⟩ ?_
                rotate_left
                · intro w_; go_simp; first | done | with_reducible rfl | (rw [if_pos (by omega)])
                go_simp
                refine wpAnyIn_ready (rs := [0]) (by kernel_rfl) (by simp) ?_
                refine AllReadyIn.cons rfl (fun K hK => ?_) ?_
                rotate_left
                · exact AllReadyIn.nil
                go_simp
                refine hK _ _ ?_; clear hK K
                refine wpAnyIn_take (i := 7) (v := ?_) rfl rfl (by kernel_rfl) (by kernel_rfl) (by kernel_rfl) (fun _ _ _ h => h) ⟨Or.inl ⟨by rfl, ?_⟩, fun _ => rfl⟩ ?_
                rotate_left
                · intro w_; go_simp; first | done | with_reducible rfl | (rw [if_pos (by omega)])
                go_simp
                refine wpAnyIn_ready (rs := [8]) (by kernel_rfl) (by simp) ?_
                refine AllReadyIn.cons rfl (fun K hK => ?_) ?_
                rotate_left
                · exact AllReadyIn.nil
                go_simp
                refine hK _ _ ?_; clear hK K
                refine wpAnyIn_done (by kernel_rfl) ?_ _
                gi_wp2
                go_roundw
                case rel => exact ⟨t + 1, _, rfl, ⟨by have := HT.out; omega⟩, ⟨(HS1.out.kept (W' := wr.drew.drew) (fun _ _ => rfl)).put f _⟩, ⟨Below.setCell (p := ⟨g, f.toNat, none⟩) (below_drew1 (below_drew1 HB1.out)) (by have := HS1.out.1; show _ ≤ g; omega) _⟩, ⟨((HK1.out.trans (KeepsOthers.drew _)).trans (KeepsOthers.drew _)).trans (KeepsOthers.setCell _ _ _)⟩, ⟨((HP1.out.trans (impl_leapsLeft.kpDrew _ _ _)).trans (impl_leapsLeft.kpDrew _ _ _)).trans (impl_leapsLeft.kpSet _ _ _ _ _)⟩, ⟨(impl_leapsLeft.step_set hc c1 (.inl c2)).symm.trans HL1.out⟩⟩
                case measure => first | (simp [intOf]; done) | (simp [intOf]; omega)
              exact AllReadyIn.nil
            exact AllReadyIn.nil
          · have e1 : decide (0 ≤ rd ys t) = true := decide_eq_true c1
            have e2 : decide (rd ys f < 0) = false := decide_eq_false c2
            refine impl_leapsLeft.region_inRound (by kernel_rfl) (by kernel_rfl) ?_
            refine wpAnyIn_take (i := 1) (v := ?_) rfl rfl (by kernel_rfl) (by kernel_rfl) (by kernel_rfl) (fun _ _ _ h => h) ⟨Or.inl ⟨by rfl, ?_⟩, fun _ => rfl⟩ ?_
            rotate_left
            · intro w_; go_simp; first | done | with_reducible rfl | (rw [if_pos (by omega)])
            go_simp
            refine wpAnyIn_ready (rs := [0]) (by kernel_rfl) (by simp) ?_
            refine AllReadyIn.cons rfl (fun K hK => ?_) ?_
            rotate_left
            · exact AllReadyIn.nil
            go_simp
            refine hK _ _ ?_; clear hK K
            refine wpAnyIn_take (i := 2) (v := ?_) rfl rfl (by kernel_rfl) (by kernel_rfl) (by kernel_rfl) (fun _ _ _ h => h) ⟨Or.inl ⟨by rfl, ?_⟩, fun _ => rfl⟩ ?_
            rotate_left
            · intro w_; go_simp; first | done | with_reducible rfl | (rw [if_pos (by omega)])
            go_simp
            refine wpAnyIn_ready (rs := [3]) (by kernel_rfl) (by simp) ?_
            refine AllReadyIn.cons rfl (fun K hK => ?_) ?_
            rotate_left
            · exact AllReadyIn.nil
            go_simp
            refine hK _ _ ?_; clear hK K
            refine wpAnyIn_take (i := 4) (v := ?_) rfl rfl (by kernel_rfl) (by kernel_rfl) (by kernel_rfl) (fun _ _ _ h => h) ⟨Or.inl ⟨by rfl, ?_⟩, fun _ => rfl⟩ ?_
            rotate_left
            · intro w_; go_simp; first | done | with_reducible rfl | (rw [if_pos (by omega)])
            go_simp
            refine wpAnyIn_take (i := 5) (v := ?_) rfl rfl (by kernel_rfl) (by kernel_rfl) (by kernel_rfl) (fun _ _ _ h => h) ⟨Or.inl ⟨by rfl, ?_⟩, fun _ => rfl⟩ ?_
            rotate_left
            · intro w_; go_simp; first | done | with_reducible rfl | (rw [if_pos (by omega)])
            go_simp
            refine wpAnyIn_take (i := 7) (v := ?_) rfl rfl (by kernel_rfl) (by kernel_rfl) (by kernel_rfl) (fun _ _ _ h => h) ⟨Or.inl ⟨by rfl, ?_⟩, fun _ => rfl⟩ ?_
            rotate_left
            · intro w_; go_simp; first | done | with_reducible rfl | (rw [if_pos (by omega)])
            go_simp
            refine wpAnyIn_ready (rs := [6]) (by kernel_rfl) (by simp) ?_
            refine AllReadyIn.cons rfl (fun K hK => ?_) ?_
            rotate_left
            · exact AllReadyIn.nil
            go_simp
            refine hK _ _ ?_; clear hK K
            refine wpAnyIn_take (i := 8) (v := ?_) rfl rfl (by kernel_rfl) (by kernel_rfl) (by kernel_rfl) (fun _ _ _ h => h) ⟨Or.inl ⟨by rfl, ?_⟩, fun _ => rfl⟩ ?_
            rotate_left
            · intro w_; go_simp; first | done | with_reducible rfl | (rw [if_pos (by omega)])
            go_simp
            refine wpAnyIn_ready (rs := [9]) (by kernel_rfl) (by simp) ?_
            refine AllReadyIn.cons rfl (fun K hK => ?_) ?_
            rotate_left
            · exact AllReadyIn.nil
            go_simp
            refine hK _ _ ?_; clear hK K
            refine wpAnyIn_take (i := 10) (v := ?_) rfl rfl (by kernel_rfl) (by kernel_rfl) (by kernel_rfl) (fun _ _ _ h => h) ⟨Or.inl ⟨by rfl, ?_⟩, fun _ => rfl⟩ ?_
            rotate_left
            · intro w_; go_simp; first | done | with_reducible rfl | (rw [if_pos (by omega)])
            go_simp
            refine wpAnyIn_take (i := 11) (v := ?_) rfl rfl (by kernel_rfl) (by kernel_rfl) (by kernel_rfl) (fun _ _ _ h => h) ⟨Or.inl ⟨by rfl, ?_⟩, fun _ => rfl⟩ ?_
            rotate_left
            · intro w_; go_simp; first | done | with_reducible rfl | (rw [if_pos (by omega)])
            go_simp
            refine wpAnyIn_take (i := 13) (v := ?_) rfl rfl (by kernel_rfl) (by kernel_rfl) (by kernel_rfl) (fun _ _ _ h => h) ⟨Or.inl ⟨by rfl, ?_⟩, fun _ => rfl⟩ ?_
            rotate_left
            · intro w_; go_simp; first | done | with_reducible rfl | (rw [if_pos (by omega)])
            go_simp
            refine wpAnyIn_take (i := 18) (v := ?_) rfl rfl (by kernel_rfl) (by kernel_rfl) (by kernel_rfl) (fun _ _ _ h => h) ⟨Or.inl ⟨by rfl, ?_⟩, fun _ => rfl⟩ ?_
            rotate_left
            · intro w_; go_simp; first | done | with_reducible rfl | (rw [if_pos (by omega)])
            go_simp
            refine wpAnyIn_ready (rs := [12, 17]) (by kernel_rfl) (by simp) ?_
            refine AllReadyIn.cons rfl (fun K hK => ?_) ?_
            · go_simp
              refine hK _ _ ?_; clear hK K
              refine wpAnyIn_take (i := 14) (v := ?_) rfl rfl (by kernel_rfl) (by kernel_rfl) (by kernel_rfl) (fun _ _ _ h => h) ⟨Or.inl ⟨by rfl, ?_⟩, fun _ => rfl⟩ ?_
              rotate_left
              · intro w_; go_simp; first | done | with_reducible rfl | (rw [if_pos (by omega)])
              go_simp
              refine wpAnyIn_ready (rs := [15, 17]) (by kernel_rfl) (by simp) ?_
              refine AllReadyIn.cons rfl (fun K hK => ?_) ?_
              · go_simp
                refine hK _ _ ?_; clear hK K
                refine wpAnyIn_take (i := 16) (v := ?_) rfl rfl (by kernel_rfl) (by kernel_rfl) (by kernel_rfl) (fun _ _ _ h => h) ⟨Or.inl ⟨by rfl, ?_⟩, fun _ => rfl⟩ ?_
                rotate_left
                · intro w_; go_simp; first | done | with_reducible rfl | (rw [if_pos (by omega)])
                go_simp
                refine wpAnyIn_ready (rs := [17]) (by kernel_rfl) (by simp) ?_
                refine AllReadyIn.cons rfl (fun K hK => ?_) ?_
                rotate_left
                · exact AllReadyIn.nil
                go_simp
                refine hK _ _ ?_; clear hK K
                refine wpAnyIn_take (i := 19) (v := ?_) rfl rfl (by kernel_rfl) (by kernel_rfl) (by kernel_rfl) (fun _ _ _ h => h) ⟨Or.inl ⟨by rfl, ?_⟩, fun _ => rfl⟩ ?_
                rotate_left
                · intro w_; go_simp; first | done | with_reducible rfl | (rw [if_pos (by omega)])
                go_simp
                refine wpAnyIn_ready (rs := [20]) (by kernel_rfl) (by simp) ?_
                refine AllReadyIn.cons rfl (fun K hK => ?_) ?_
                rotate_left
                · exact AllReadyIn.nil
                go_simp
                refine hK _ _ ?_; clear hK K
                refine wpAnyIn_take (i := 21) (v := ?_) rfl rfl (by kernel_rfl) (by kernel_rfl) (by kernel_rfl) (fun _ _ _ h => h) ⟨Or.inl ⟨by rfl, ?_⟩, fun _ => rfl⟩ ?_
                rotate_left
                · intro w_; go_simp; first | done | with_reducible rfl | (rw [if_pos (by omega)])
                go_simp
                refine wpAnyIn_take (i := 22) (v := ?_) rfl rfl (by kernel_rfl) (by kernel_rfl) (by kernel_rfl) (fun _ _ _ h => h) ⟨Or.inl ⟨by rfl, ?_⟩, fun _ => rfl⟩ ?_
                rotate_left
                · intro w_; go_simp; first | done | with_reducible rfl | (rw [if_pos (by omega)])
                go_simp
                refine wpAnyIn_take (i := 23) (v := ?_) rfl rfl (by kernel_rfl) (by kernel_rfl) (by kernel_rfl) (fun _ _ _ h => h) ⟨Or.inl ⟨by rfl, ?_⟩, fun _ => rfl⟩ ?_
                rotate_left
                · intro w_; go_simp; first | done | with_reducible rfl | (rw [if_pos (by omega)])
                go_simp
                refine wpAnyIn_done (by kernel_rfl) ?_ _
                gi_wp2
                · refine impl_leapsLeft.region_inRound (by kernel_rfl) (by kernel_rfl) ?_
                  refine wpAnyIn_take (i := 1) (v := ?_) rfl rfl (by kernel_rfl) (by kernel_rfl) (by kernel_rfl) (fun _ _ _ h => h) ⟨Or.inl ⟨by rfl, ?_⟩, fun _ => rfl⟩ ?_
                  rotate_left
                  · intro w_; go_simp; first | done | with_reducible rfl | (rw [if_pos (by omega)])
                  go_simp
                  refine wpAnyIn_take (i := 3) (v := ?_) rfl rfl (by kernel_rfl) (by kernel_rfl) (by kernel_rfl) (fun _ _ _ h => h) ⟨Or.inl ⟨by rfl, ?_⟩, fun _ => rfl⟩ ?_
                  rotate_left
                  · intro w_; go_simp; first | done | with_reducible rfl | (rw [if_pos (by omega)])
                  go_simp
                  refine wpAnyIn_ready (rs := [0, 2]) (by kernel_rfl) (by simp) ?_
                  refine AllReadyIn.cons rfl (fun K hK => ?_) ?_
                  · go_simp
                    refine hK _ _ ?_; clear hK K
                    refine wpAnyIn_ready (rs := [2]) (by kernel_rfl) (by simp) ?_
                    refine AllReadyIn.cons rfl (fun K hK => ?_) ?_
                    rotate_left
                    · exact AllReadyIn.nil
                    go_simp
                    refine hK _ _ ?_; clear hK K
                    refine wpAnyIn_take (i := 4) (v := ?_) rfl rfl (by kernel_rfl) (by kernel_rfl) (by kernel_rfl) (fun _ _ _ h => h) ⟨Or.inl ⟨by rfl, ?_⟩, fun _ => rfl⟩ ?_
                    rotate_left
                    · intro w_; go_simp; first | done | with_reducible rfl | (rw [if_pos (by omega)])
                    go_simp
                    refine wpAnyIn_ready (rs := [5]) (by kernel_rfl) (by simp) ?_
                    refine AllReadyIn.cons rfl (fun K hK => ?_) ?_
                    rotate_left
                    · exact AllReadyIn.nil
                    go_simp
                    refine hK _ _ ?_; clear hK K
                    refine wpAnyIn_take (i := 6) (v := ?_) rfl rfl (by kernel_rfl) (by kernel_rfl) (by kernel_rfl) (fun _ _ _ h => h) ⟨Or.inl ⟨by rfl, ?_⟩, fun _ => rfl⟩ ?_
                    rotate_left
                    · intro w_; go_simp; first | done | with_reducible rfl | (rw [if_pos (by omega)])
                    go_simp
                    refine wpAnyIn_take (i := 7) (v := ?_) rfl rfl (by kernel_rfl) (by kernel_rfl) (by kernel_rfl) (fun _ _ _ h => h) ⟨Or.inl ⟨by rfl, ?_⟩, fun _ => rfl⟩ ?_
                    rotate_left
                    · intro w_; go_simp; first | done | with_reducible rfl | (rw [if_pos (by omega)])
                    go_simp
                    refine wpAnyIn_ready (rs := [8]) (by kernel_rfl) (by simp) ?_
                    refine AllReadyIn.cons rfl (fun K hK => ?_) ?_
                    rotate_left
                    · exact AllReadyIn.nil
                    go_simp
                    refine hK _ _ ?_; clear hK K
                    refine wpAnyIn_done (by kernel_rfl) ?_ _
                    gi_wp2
                    go_roundw
                    case rel => exact ⟨t + 1, _, rfl, ⟨by have := HT.out; omega⟩, ⟨(HS1.out.kept (W' := wr.drew.drew) (fun _ _ => rfl)).put f _⟩, ⟨Below.setCell (p := ⟨g, f.toNat, none⟩) (below_drew1 (below_drew1 HB1.out)) (by have := HS1.out.1; show _ ≤ g; omega) _⟩, ⟨((HK1.out.trans (KeepsOthers.drew _)).trans (KeepsOthers.drew _)).trans (KeepsOthers.setCell _ _ _)⟩, ⟨((HP1.out.trans (impl_leapsLeft.kpDrew _ _ _)).trans (impl_leapsLeft.kpDrew _ _ _)).trans (impl_leapsLeft.kpSet _ _ _ _ _)⟩, ⟨(impl_leapsLeft.step_set hc c1 (.inr (by rw [← i64_w]; assumption))).symm.trans HL1.out⟩⟩
                    case measure => first | (simp [intOf]; done) | (simp [intOf]; omega)
                  refine AllReadyIn.cons rfl (fun K hK => ?_) ?_
                  · go_simp
                    refine hK _ _ ?_; clear hK K
                    refine wpAnyIn_take (i := 4) (v := ?_) rfl rfl (by kernel_rfl) (by kernel_rfl) (by kernel_rfl) (fun _ _ _ h => h) ⟨Or.inl ⟨by rfl, ?_⟩, fun _ => rfl⟩ ?_
                    rotate_left
                    · intro w_; go_simp; first | done | with_reducible rfl | (rw [if_pos (by omega)])
                    go_simp
                    refine wpAnyIn_ready (rs := [0, 5]) (by kernel_rfl) (by simp) ?_
                    refine AllReadyIn.cons rfl (fun K hK => ?_) ?_
                    · go_simp
                      refine hK _ _ ?_; clear hK K
                      refine wpAnyIn_ready (rs := [5]) (by kernel_rfl) (by simp) ?_
                      refine AllReadyIn.cons rfl (fun K hK => ?_) ?_
                      rotate_left
                      · exact AllReadyIn.nil
                      go_simp
                      refine hK _ _ ?_; clear hK K
                      refine wpAnyIn_take (i := 6) (v := ?_) rfl rfl (by kernel_rfl) (by kernel_rfl) (by kernel_rfl) (fun _ _ _ h => h) ⟨Or.inl ⟨by rfl, ?_⟩, fun _ => rfl⟩ ?_
                      rotate_left
                      · intro w_; go_simp; first | done | with_reducible rfl | (rw [if_pos (by omega)])
                      go_simp
                      refine wpAnyIn_take (i := 7) (v := ?_) rfl rfl (by kernel_rfl) (by kernel_rfl) (by kernel_rfl) (fun _ _ _ h => h) ⟨Or.inl ⟨by rfl, ?_⟩, fun _ => rfl⟩ ?_
                      rotate_left
                      · intro w_; go_simp; first | done | with_reducible rfl | (rw [if_pos (by omega)])
                      go_simp
                      refine wpAnyIn_ready (rs := [8]) (by kernel_rfl) (by simp) ?_
                      refine AllReadyIn.cons rfl (fun K hK => ?_) ?_
                      rotate_left
                      · exact AllReadyIn.nil
                      go_simp
                      refine hK _ _ ?_; clear hK K
                      refine wpAnyIn_done (by kernel_rfl) ?_ _
                      gi_wp2
                      go_roundw
                      case rel => exact ⟨t + 1, _, rfl, ⟨by have := HT.out; omega⟩, ⟨(HS1.out.kept (W' := wr.drew.drew) (fun _ _ => rfl)).put f _⟩, ⟨Below.setCell (p := ⟨g, f.toNat, none⟩) (below_drew1 (below_drew1 HB1.out)) (by have := HS1.out.1; show _ ≤ g; omega) _⟩, ⟨((HK1.out.trans (KeepsOthers.drew _)).trans (KeepsOthers.drew _)).trans (KeepsOthers.setCell _ _ _)⟩, ⟨((HP1.out.trans (impl_leapsLeft.kpDrew _ _ _)).trans (impl_leapsLeft.kpDrew _ _ _)).trans (impl_leapsLeft.kpSet _ _ _ _ _)⟩, ⟨(impl_leapsLeft.step_set hc c1 (.inr (by rw [← i64_w]; assumption))).symm.trans HL1.out⟩⟩
                      case measure => first | (simp [intOf]; done) | (simp [intOf]; omega)
                    refine AllReadyIn.cons rfl (fun K hK => ?_) ?_
                    · go_simp
                      refine hK _ _ ?_; clear hK K
                      refine wpAnyIn_take (i := 6) (v := ?_) rfl rfl (by kernel_rfl) (by kernel_rfl) (by kernel_rfl) (fun _ _ _ h => h) ⟨Or.inl ⟨by rfl, ?_⟩, fun _ => rfl⟩ ?_
                      rotate_left
                      · intro w_; go_simp; first | done | with_reducible rfl | (rw [if_pos (by omega)])
                      go_simp
                      refine wpAnyIn_ready (rs := [0]) (by kernel_rfl) (by simp) ?_
                      refine AllReadyIn.cons rfl (fun K hK => ?_) ?_
                      rotate_left
                      · exact AllReadyIn.nil
                      go_simp
                      refine hK _ _ ?_; clear hK K
                      refine wpAnyIn_take (i := 7) (v := ?_) rfl rfl (by kernel_rfl) (by kernel_rfl) (by kernel_rfl) (fun _ _ _ h => h) ⟨Or.inl ⟨by rfl, ?_⟩, fun _ => rfl⟩ ?_
                      rotate_left
                      · intro w_; go_simp; first | done | with_reducible rfl | (rw [if_pos (by omega)])
                      go_simp
                      refine wpAnyIn_ready (rs := [8]) (by kernel_rfl) (by simp) ?_
                      refine AllReadyIn.cons rfl (fun K hK => ?_) ?_
                      rotate_left
                      · exact AllReadyIn.nil
                      go_simp
                      refine hK _ _ ?_; clear hK K
                      refine wpAnyIn_done (by kernel_rfl) ?_ _
                      gi_wp2
                      go_roundw
                      case rel => exact ⟨t + 1, _, rfl, ⟨by have := HT.out; omega⟩, ⟨(HS1.out.kept (W' := wr.drew.drew) (fun _ _ => rfl)).put f _⟩, ⟨Below.setCell (p := ⟨g, f.toNat, none⟩) (below_drew1 (below_drew1 HB1.out)) (by have := HS1.out.1; show _ ≤ g; omega) _⟩, ⟨((HK1.out.trans (KeepsOthers.drew _)).trans (KeepsOthers.drew _)).trans (KeepsOthers.setCell _ _ _)⟩, ⟨((HP1.out.trans (impl_leapsLeft.kpDrew _ _ _)).trans (impl_leapsLeft.kpDrew _ _ _)).trans (impl_leapsLeft.kpSet _ _ _ _ _)⟩, ⟨(impl_leapsLeft.step_set hc c1 (.inr (by rw [← i64_w]; assumption))).symm.trans HL1.out⟩⟩
                      case measure => first | (simp [intOf]; done) | (simp [intOf]; omega)
                    exact AllReadyIn.nil
                  exact AllReadyIn.nil
                · go_roundw
                  case rel => exact ⟨t + 1, ys, rfl, ⟨by have := HT.out; omega⟩, ⟨HS1.out.kept (fun _ _ => rfl)⟩, ⟨below_drew1 HB1.out⟩, ⟨HK1.out.trans (KeepsOthers.drew _)⟩, ⟨HP1.out.trans (impl_leapsLeft.kpDrew _ _ _)⟩, ⟨(impl_leapsLeft.step_not hc (fun h => h.2.elim (fun h2 => by omega) (fun h2 => by rw [← i64_w] at h2; omega))).symm.trans HL1.out⟩⟩
                  case measure => first | (simp [intOf]; done) | (simp [intOf]; omega)
              refine AllReadyIn.cons rfl (fun K hK => ?_) ?_
              · go_simp
                refine hK _ _ ?_; clear hK K
                refine wpAnyIn_take (i := 19) (v := ?_) rfl rfl (by kernel_rfl) (by kernel_rfl) (by kernel_rfl) (fun _ _ _ h => h) ⟨Or.inl ⟨by rfl, ?_⟩, fun _ => rfl⟩ ?_
                rotate_left
                · intro w_; go_simp; first | done | with_reducible rfl | (rw [if_pos (by omega)])
                go_simp
                refine wpAnyIn_ready (rs := [15, 20]) (by kernel_rfl) (by simp) ?_
                refine AllReadyIn.cons rfl (fun K hK => ?_) ?_
                · go_simp
                  refine hK _ _ ?_; clear hK K
                  refine wpAnyIn_take (i := 16) (v := ?_) rfl rfl (by kernel_rfl) (by kernel_rfl) (by kernel_rfl) (fun _ _ _ h => h) ⟨Or.inl ⟨by rfl, ?_⟩, fun _ => rfl⟩ ?_
                  rotate_left
                  · intro w_; go_simp; first | done | with_reducible rfl | (rw [if_pos (by omega)])
                  go_simp
                  refine wpAnyIn_ready (rs := [20]) (by kernel_rfl) (by simp) ?_
                  refine AllReadyIn.cons rfl (fun K hK => ?_) ?_
                  rotate_left
                  · exact AllReadyIn.nil
                  go_simp
                  refine hK _ _ ?_; clear hK K
                  refine wpAnyIn_take (i := 21) (v := ?_) rfl rfl (by kernel_rfl) (by kernel_rfl) (by kernel_rfl) (fun _ _ _ h => h) ⟨Or.inl ⟨by rfl, ?_⟩, fun _ => rfl⟩ ?_
                  rotate_left
                  · intro w_; go_simp; first | done | with_reducible rfl | (rw [if_pos (by omega)])
                  go_simp
                  refine wpAnyIn_take (i := 22) (v := ?_) rfl rfl (by kernel_rfl) (by kernel_rfl) (by kernel_rfl) (fun _ _ _ h => h) ⟨Or.inl ⟨by rfl, ?_⟩, fun _ => rfl⟩ ?_
                  rotate_left
                  · intro w_; go_simp; first | done | with_reducible rfl | (rw [if_pos (by omega)])
                  go_simp
                  refine wpAnyIn_take (i := 23) (v := ?_) rfl rfl (by kernel_rfl) (by kernel_rfl) (by kernel_rfl) (fun _ _ _ h => h) ⟨Or.inl ⟨by rfl, ?_⟩, fun _ => rfl⟩ ?_
                  rotate_left
                  · intro w_; go_simp; first | done | with_reducible rfl | (rw [if_pos (by omega)])
                  go_simp
                  refine wpAnyIn_done (by kernel_rfl) ?_ _
                  gi_wp2
                  · refine impl_leapsLeft.region_inRound (by kernel_rfl) (by kernel_rfl) ?_
                    refine wpAnyIn_take (i := 1) (v := ?_) rfl rfl (by kernel_rfl) (by kernel_rfl) (by kernel_rfl) (fun _ _ _ h => h) ⟨Or.inl ⟨by rfl, ?_⟩, fun _ => rfl⟩ ?_
                    rotate_left
                    · intro w_; go_simp; first | done | with_reducible rfl | (rw [if_pos (by omega)])
                    go_simp
                    refine wpAnyIn_take (i := 3) (v := ?_) rfl rfl (by kernel_rfl) (by kernel_rfl) (by kernel_rfl) (fun _ _ _ h => h) ⟨Or.inl ⟨by rfl, ?_⟩, fun _ => rfl⟩ ?_
                    rotate_left
                    · intro w_; go_simp; first | done | with_reducible rfl | (rw [if_pos (by omega)])
                    go_simp
                    refine wpAnyIn_ready (rs := [0, 2]) (by kernel_rfl) (by simp) ?_
                    refine AllReadyIn.cons rfl (fun K hK => ?_) ?_
                    · go_simp
                      refine hK _ _ ?_; clear hK K
                      refine wpAnyIn_ready (rs := [2]) (by kernel_rfl) (by simp) ?_
                      refine AllReadyIn.cons rfl (fun K hK => ?_) ?_
                      rotate_left
                      · exact AllReadyIn.nil
                      go_simp
                      refine hK _ _ ?_; clear hK K
                      refine wpAnyIn_take (i := 4) (v := ?_) rfl rfl (by kernel_rfl) (by kernel_rfl) (by kernel_rfl) (fun _ _ _ h => h) ⟨Or.inl ⟨by rfl, ?_⟩, fun _ => rfl⟩ ?_
                      rotate_left
                      · intro w_; go_simp; first | done | with_reducible rfl | (rw [if_pos (by omega)])
                      go_simp
                      refine wpAnyIn_ready (rs := [5]) (by kernel_rfl) (by simp) ?_
                      refine AllReadyIn.cons rfl (fun K hK => ?_) ?_
                      rotate_left
                      · exact AllReadyIn.nil
                      go_simp
                      refine hK _ _ ?_; clear hK K
                      refine wpAnyIn_take (i := 6) (v := ?_) rfl rfl (by kernel_rfl) (by kernel_rfl) (by kernel_rfl) (fun _ _ _ h => h) ⟨Or.inl ⟨by rfl, ?_⟩, fun _ => rfl⟩ ?_
                      rotate_left
                      · intro w_; go_simp; first | done | with_reducible rfl | (rw [if_pos (by omega)])
                      go_simp
                      refine wpAnyIn_take (i := 7) (v := ?_) rfl rfl (by kernel_rfl) (by kernel_rfl) (by kernel_rfl) (fun _ _ _ h => h) ⟨Or.inl ⟨by rfl, ?_⟩, fun _ => rfl⟩ ?_
                      rotate_left
                      · intro w_; go_simp; first | done | with_reducible rfl | (rw [if_pos (by omega)])
                      go_simp
                      refine wpAnyIn_ready (rs := [8]) (by kernel_rfl) (by simp) ?_
                      refine AllReadyIn.cons rfl (fun K hK => ?_) ?_
                      rotate_left
                      · exact AllReadyIn.nil
                      go_simp
                      refine hK _ _ ?_; clear hK K
                      refine wpAnyIn_done (by kernel_rfl) ?_ _
                      gi_wp2
                      go_roundw
                      case rel => exact ⟨t + 1, _, rfl, ⟨by have := HT.out; omega⟩, ⟨(HS1.out.kept (W' := wr.drew.drew) (fun _ _ => rfl)).put f _⟩, ⟨Below.setCell (p := ⟨g, f.toNat, none⟩) (below_drew1 (below_drew1 HB1.out)) (by have := HS1.out.1; show _ ≤ g; omega) _⟩, ⟨((HK1.out.trans (KeepsOthers.drew _)).trans (KeepsOthers.drew _)).trans (KeepsOthers.setCell _ _ _)⟩, ⟨((HP1.out.trans (impl_leapsLeft.kpDrew _ _ _)).trans (impl_leapsLeft.kpDrew _ _ _)).trans (impl_leapsLeft.kpSet _ _ _ _ _)⟩, ⟨(impl_leapsLeft.step_set hc c1 (.inr (by rw [← i64_w]; assumption))).symm.trans HL1.out⟩⟩
                      case measure => first | (simp [intOf]; done) | (simp [intOf]; omega)
                    refine AllReadyIn.cons rfl (fun K hK => ?_) ?_
                    · go_simp
                      refine hK _ _ ?_; clear hK K
                      refine wpAnyIn_take (i := 4) (v := ?_) rfl rfl (by kernel_rfl) (by kernel_rfl) (by kernel_rfl) (fun _ _ _ h => h) ⟨Or.inl ⟨by rfl, ?_⟩, fun _ => rfl⟩ ?_
                      rotate_left
                      · intro w_; go_simp; first | done | with_reducible rfl | (rw [if_pos (by omega)])
                      go_simp
                      refine wpAnyIn_ready (rs := [0, 5]) (by kernel_rfl) (by simp) ?_
                      refine AllReadyIn.cons rfl (fun K hK => ?_) ?_
                      · go_simp
                        refine hK _ _ ?_; clear hK K
                        refine wpAnyIn_ready (rs := [5]) (by kernel_rfl) (by simp) ?_
                        refine AllReadyIn.cons rfl (fun K hK => ?_) ?_
                        rotate_left
                        · exact AllReadyIn.nil
                        go_simp
                        refine hK _ _ ?_; clear hK K
                        refine wpAnyIn_take (i := 6) (v := ?_) rfl rfl (by kernel_rfl) (by kernel_rfl) (by kernel_rfl) (fun _ _ _ h => h) ⟨Or.inl ⟨by rfl, ?_⟩, fun _ => rfl⟩ ?_
                        rotate_left
                        · intro w_; go_simp; first | done | with_reducible rfl | (rw [if_pos (by omega)])
                        go_simp
                        refine wpAnyIn_take (i := 7) (v := ?_) rfl rfl (by kernel_rfl) (by kernel_rfl) (by kernel_rfl) (fun _ _ _ h => h) ⟨Or.inl ⟨by rfl, ?_⟩, fun _ => rfl⟩ ?_
                        rotate_left
                        · intro w_; go_simp; first | done | with_reducible rfl | (rw [if_pos (by omega)])
                        go_simp
                        refine wpAnyIn_ready (rs := [8]) (by kernel_rfl) (by simp) ?_
                        refine AllReadyIn.cons rfl (fun K hK => ?_) ?_
                        rotate_left
                        · exact AllReadyIn.nil
                        go_simp
                        refine hK _ _ ?_; clear hK K
                        refine wpAnyIn_done (by kernel_rfl) ?_ _
                        gi_wp2
                        go_roundw
                        case rel => exact ⟨t + 1, _, rfl, ⟨by have := HT.out; omega⟩, ⟨(HS1.out.kept (W' := wr.drew.drew) (fun _ _ => rfl)).put f _⟩, ⟨Below.setCell (p := ⟨g, f.toNat, none⟩) (below_drew1 (below_drew1 HB1.out)) (by have := HS1.out.1; show _ ≤ g; omega) _⟩, ⟨((HK1.out.trans (KeepsOthers.drew _)).trans (KeepsOthers.drew _)).trans (KeepsOthers.setCell _ _ _)⟩, ⟨((HP1.out.trans (impl_leapsLeft.kpDrew _ _ _)).trans (impl_leapsLeft.kpDrew _ _ _)).trans (impl_leapsLeft.kpSet _ _ _ _ _)⟩, ⟨(impl_leapsLeft.step_set hc c1 (.inr (by rw [← i64_w]; assumption))).symm.trans HL1.out⟩⟩
                        case measure => first | (simp [intOf]; done) | (simp [intOf]; omega)
                      refine AllReadyIn.cons rfl (fun K hK => ?_) ?_
                      · go_simp
                        refine hK _ _ ?_; clear hK K
                        refine wpAnyIn_take (i := 6) (v := ?_) rfl rfl (by kernel_rfl) (by kernel_rfl) (by kernel_rfl) (fun _ _ _ h => h) ⟨Or.inl ⟨by rfl, ?_⟩, fun _ => rfl⟩ ?_
                        rotate_left
                        · intro w_; go_simp; first | done | with_reducible rfl | (rw [if_pos (by omega)])
                        go_simp
                        refine wpAnyIn_ready (rs := [0]) (by kernel_rfl) (by simp) ?_
                        refine AllReadyIn.cons rfl (fun K hK => ?_) ?_
                        rotate_left
                        · exact AllReadyIn.nil
                        go_simp
                        refine hK _ _ ?_; clear hK K
                        refine wpAnyIn_take (i := 7) (v := ?_) rfl rfl (by kernel_rfl) (by kernel_rfl) (by kernel_rfl) (fun _ _ _ h => h) ⟨Or.inl ⟨by rfl, ?_⟩, fun _ => rfl⟩ ?_
                        rotate_left
                        · intro w_; go_simp; first | done | with_reducible rfl | (rw [if_pos (by omega)])
                        go_simp
                        refine wpAnyIn_ready (rs := [8]) (by kernel_rfl) (by simp) ?_
                        refine AllReadyIn.cons rfl (fun K hK => ?_) ?_
                        rotate_left
                        · exact AllReadyIn.nil
                        go_simp
                        refine hK _ _ ?_; clear hK K
                        refine wpAnyIn_done (by kernel_rfl) ?_ _
                        gi_wp2
                        go_roundw
                        case rel => exact ⟨t + 1, _, rfl, ⟨by have := HT.out; omega⟩, ⟨(HS1.out.kept (W' := wr.drew.drew) (fun _ _ => rfl)).put f _⟩, ⟨Below.setCell (p := ⟨g, f.toNat, none⟩) (below_drew1 (below_drew1 HB1.out)) (by have := HS1.out.1; show _ ≤ g; omega) _⟩, ⟨((HK1.out.trans (KeepsOthers.drew _)).trans (KeepsOthers.drew _)).trans (KeepsOthers.setCell _ _ _)⟩, ⟨((HP1.out.trans (impl_leapsLeft.kpDrew _ _ _)).trans (impl_leapsLeft.kpDrew _ _ _)).trans (impl_leapsLeft.kpSet _ _ _ _ _)⟩, ⟨(impl_leapsLeft.step_set hc c1 (.inr (by rw [← i64_w]; assumption))).symm.trans HL1.out⟩⟩
                        case measure => first | (simp [intOf]; done) | (simp [intOf]; omega)
                      exact AllReadyIn.nil
                    exact AllReadyIn.nil
                  · go_roundw
                    case rel => exact ⟨t + 1, ys, rfl, ⟨by have := HT.out; omega⟩, ⟨HS1.out.kept (fun _ _ => rfl)⟩, ⟨below_drew1 HB1.out⟩, ⟨HK1.out.trans (KeepsOthers.drew _)⟩, ⟨HP1.out.trans (impl_leapsLeft.kpDrew _ _ _)⟩, ⟨(impl_leapsLeft.step_not hc (fun h => h.2.elim (fun h2 => by omega) (fun h2 => by rw [← i64_w] at h2; omega))).symm.trans HL1.out⟩⟩
                    case measure => first | (simp [intOf]; done) | (simp [intOf]; omega)
                refine AllReadyIn.cons rfl (fun K hK => ?_) ?_
                · go_simp
                  refine hK _ _ ?_; clear hK K
                  refine wpAnyIn_ready (rs := [15]) (by kernel_rfl) (by simp) ?_
                  refine AllReadyIn.cons rfl (fun K hK => ?_) ?_
                  rotate_left
                  · exact AllReadyIn.nil
                  go_simp
                  refine hK _ _ ?_; clear hK K
                  refine wpAnyIn_take (i := 16) (v := ?_) rfl rfl (by kernel_rfl) (by kernel_rfl) (by kernel_rfl) (fun _ _ _ h => h) ⟨Or.inl ⟨by rfl, ?_⟩, fun _ => rfl⟩ ?_
                  rotate_left
                  · intro w_; go_simp; first | done | with_reducible rfl | (rw [if_pos (by omega)])
                  go_simp
                  refine wpAnyIn_take (i := 21) (v := ?_) rfl rfl (by kernel_rfl) (by kernel_rfl) (by kernel_rfl) (fun _ _ _ h => h) ⟨Or.inl ⟨by rfl, ?_⟩, fun _ => rfl⟩ ?_
                  rotate_left
                  · intro w_; go_simp; first | done | with_reducible rfl | (rw [if_pos (by omega)])
                  go_simp
                  refine wpAnyIn_take (i := 22) (v := ?_) rfl rfl (by kernel_rfl) (by kernel_rfl) (by kernel_rfl) (fun _ _ _ h => h) ⟨Or.inl ⟨by rfl, ?_⟩, fun _ => rfl⟩ ?_
                  rotate_left
                  · intro w_; go_simp; first | done | with_reducible rfl | (rw [if_pos (by omega)])
                  go_simp
                  refine wpAnyIn_take (i := 23) (v := ?_) rfl rfl (by kernel_rfl) (by kernel_rfl) (by kernel_rfl) (fun _ _ _ h => h) ⟨Or.inl ⟨by rfl, ?_⟩, fun _ => rfl⟩ ?_
                  rotate_left
                  · intro w_; go_simp; first | done | with_reducible rfl | (rw [if_pos (by omega)])
                  go_simp
                  refine wpAnyIn_done (by kernel_rfl) ?_ _
                  gi_wp2
                  · refine impl_leapsLeft.region_inRound (by kernel_rfl) (by kernel_rfl) ?_
                    refine wpAnyIn_take (i := 1) (v := ?_) rfl rfl (by kernel_rfl) (by kernel_rfl) (by kernel_rfl) (fun _ _ _ h => h) ⟨Or.inl ⟨by rfl, ?_⟩, fun _ => rfl⟩ ?_
                    rotate_left
                    · intro w_; go_simp; first | done | with_reducible rfl | (rw [if_pos (by omega)])
                    go_simp
                    refine wpAnyIn_take (i := 3) (v := ?_) rfl rfl (by kernel_rfl) (by kernel_rfl) (by kernel_rfl) (fun _ _ _ h => h) ⟨Or.inl ⟨by rfl, ?_⟩, fun _ => rfl⟩ ?_
                    rotate_left
                    · intro w_; go_simp; first | done | with_reducible rfl | (rw [if_pos (by omega)])
                    go_simp
                    refine wpAnyIn_ready (rs := [0, 2]) (by kernel_rfl) (by simp) ?_
                    refine AllReadyIn.cons rfl (fun K hK => ?_) ?_
                    · go_simp
                      refine hK _ _ ?_; clear hK K
                      refine wpAnyIn_ready (rs := [2]) (by kernel_rfl) (by simp) ?_
                      refine AllReadyIn.cons rfl (fun K hK => ?_) ?_
                      rotate_left
                      · exact AllReadyIn.nil
                      go_simp
                      refine hK _ _ ?_; clear hK K
                      refine wpAnyIn_take (i := 4) (v := ?_) rfl rfl (by kernel_rfl) (by kernel_rfl) (by kernel_rfl) (fun _ _ _ h => h) ⟨Or.inl ⟨by rfl, ?_⟩, fun _ => rfl⟩ ?_
                      rotate_left
                      · intro w_; go_simp; first | done | with_reducible rfl | (rw [if_pos (by omega)])
                      go_simp
                      refine wpAnyIn_ready (rs := [5]) (by kernel_rfl) (by simp) ?_
                      refine AllReadyIn.cons rfl (fun K hK => ?_) ?_
                      rotate_left
                      · exact AllReadyIn.nil
                      go_simp
                      refine hK _ _ ?_; clear hK K
                      refine wpAnyIn_take (i := 6) (v := ?_) rfl rfl (by kernel_rfl) (by kernel_rfl) (by kernel_rfl) (fun _ _ _ h => h) ⟨Or.inl ⟨by rfl, ?_⟩, fun _ => rfl⟩ ?_
                      rotate_left
                      · intro w_; go_simp; first | done | with_reducible rfl | (rw [if_pos (by omega)])
                      go_simp
                      refine wpAnyIn_take (i := 7) (v := ?_) rfl rfl (by kernel_rfl) (by kernel_rfl) (by kernel_rfl) (fun _ _ _ h => h) ⟨Or.inl ⟨by rfl, ?_⟩, fun _ => rfl⟩ ?_
                      rotate_left
                      · intro w_; go_simp; first | done | with_reducible rfl | (rw [if_pos (by omega)])
                      go_simp
                      refine wpAnyIn_ready (rs := [8]) (by kernel_rfl) (by simp) ?_
                      refine AllReadyIn.cons rfl (fun K hK => ?_) ?_
                      rotate_left
                      · exact AllReadyIn.nil
                      go_simp
                      refine hK _ _ ?_; clear hK K
                      refine wpAnyIn_done (by kernel_rfl) ?_ _
                      gi_wp2
                      go_roundw
                      case rel => exact ⟨t + 1, _, rfl, ⟨by have := HT.out; omega⟩, ⟨(HS1.out.kept (W' := wr.drew.drew) (fun _ _ => rfl)).put f _⟩, ⟨Below.setCell (p := ⟨g, f.toNat, none⟩) (below_drew1 (below_drew1 HB1.out)) (by have := HS1.out.1; show _ ≤ g; omega) _⟩, ⟨((HK1.out.trans (KeepsOthers.drew _)).trans (KeepsOthers.drew _)).trans (KeepsOthers.setCell _ _ _)⟩, ⟨((HP1.out.trans (impl_leapsLeft.kpDrew _ _ _)).trans (impl_leapsLeft.kpDrew _ _ _)).trans (impl_leapsLeft.kpSet _ _ _ _ _)⟩, ⟨(impl_leapsLeft.step_set hc c1 (.inr (by rw [← i64_w]; assumption))).symm.trans HL1.out⟩⟩
                      case measure => first | (simp [intOf]; done) | (simp [intOf]; omega)
                    refine AllReadyIn.cons rfl (fun K hK => ?_) ?_
                    · go_simp
                      refine hK _ _ ?_; clear hK K
                      refine wpAnyIn_take (i := 4) (v := ?_) rfl rfl (by kernel_rfl) (by kernel_rfl) (by kernel_rfl) (fun _ _ _ h => h) ⟨Or.inl ⟨by rfl, ?_⟩, fun _ => rfl⟩ ?_
                      rotate_left
                      · intro w_; go_simp; first | done | with_reducible rfl | (rw [if_pos (by omega)])
                      go_simp
                      refine wpAnyIn_ready (rs := [0, 5]) (by kernel_rfl) (by simp) ?_
                      refine AllReadyIn.cons rfl (fun K hK => ?_) ?_
                      · go_simp
                        refine hK _ _ ?_; clear hK K
                        refine wpAnyIn_ready (rs := [5]) (by kernel_rfl) (by simp) ?_
                        refine AllReadyIn.cons rfl (fun K hK => ?_) ?_
                        rotate_left
                        · exact AllReadyIn.nil
                        go_simp
                        refine hK _ _ ?_; clear hK K
                        refine wpAnyIn_take (i := 6) (v := ?_) rfl rfl (by kernel_rfl) (by kernel_rfl) (by kernel_rfl) (fun _ _ _ h => h) ⟨Or.inl ⟨by rfl, ?_⟩, fun _ => rfl⟩ ?_
                        rotate_left
                        · intro w_; go_simp; first | done | with_reducible rfl | (rw [if_pos (by omega)])
                        go_simp
                        refine wpAnyIn_take (i := 7) (v := ?_) rfl rfl (by kernel_rfl) (by kernel_rfl) (by kernel_rfl) (fun _ _ _ h => h) ⟨Or.inl ⟨by rfl, ?_⟩, fun _ => rfl⟩ ?_
                        rotate_left
                        · intro w_; go_simp; first | done | with_reducible rfl | (rw [if_pos (by omega)])
                        go_simp
                        refine wpAnyIn_ready (rs := [8]) (by kernel_rfl) (by simp) ?_
                        refine AllReadyIn.cons rfl (fun K hK => ?_) ?_
                        rotate_left
                        · exact AllReadyIn.nil
                        go_simp
                        refine hK _ _ ?_; clear hK K
                        refine wpAnyIn_done (by kernel_rfl) ?_ _
                        gi_wp2
                        go_roundw
                        case rel => exact ⟨t + 1, _, rfl, ⟨by have := HT.out; omega⟩, ⟨(HS1.out.kept (W' := wr.drew.drew) (fun _ _ => rfl)).put f _⟩, ⟨Below.setCell (p := ⟨g, f.toNat, none⟩) (below_drew1 (below_drew1 HB1.out)) (by have := HS1.out.1; show _ ≤ g; omega) _⟩, ⟨((HK1.out.trans (KeepsOthers.drew _)).trans (KeepsOthers.drew _)).trans (KeepsOthers.setCell _ _ _)⟩, ⟨((HP1.out.trans (impl_leapsLeft.kpDrew _ _ _)).trans (impl_leapsLeft.kpDrew _ _ _)).trans (impl_leapsLeft.kpSet _ _ _ _ _)⟩, ⟨(impl_leapsLeft.step_set hc c1 (.inr (by rw [← i64_w]; assumption))).symm.trans HL1.out⟩⟩
                        case measure => first | (simp [intOf]; done) | (simp [intOf]; omega)
                      refine AllReadyIn.cons rfl (fun K hK => ?_) ?_
                      · go_simp
                        refine hK _ _ ?_; clear hK K
                        refine wpAnyIn_take (i := 6) (v := ?_) rfl rfl (by kernel_rfl) (by kernel_rfl) (by kernel_rfl) (fun _ _ _ h => h) ⟨Or.inl ⟨by rfl, ?_⟩, fun _ => rfl⟩ ?_
                        rotate_left
                        · intro w_; go_simp; first | done | with_reducible rfl | (rw [if_pos (by omega)])
                        go_simp
                        refine wpAnyIn_ready (rs := [0]) (by kernel_rfl) (by simp) ?_
                        refine AllReadyIn.cons rfl (fun K hK => ?_) ?_
                        rotate_left
                        · exact AllReadyIn.nil
                        go_simp
                        refine hK _ _ ?_; clear hK K
                        refine wpAnyIn_take (i := 7) (v := ?_) rfl rfl (by kernel_rfl) (by kernel_rfl) (by kernel_rfl) (fun _ _ _ h => h) ⟨Or.inl ⟨by rfl, ?_⟩, fun _ => rfl⟩ ?_
                        rotate_left
                        · intro w_; go_simp; first | done | with_reducible rfl | (rw [if_pos (by omega)])
                        go_simp
                        refine wpAnyIn_ready (rs := [8]) (by kernel_rfl) (by simp) ?_
                        refine AllReadyIn.cons rfl (fun K hK => ?_) ?_
                        rotate_left
                        · exact AllReadyIn.nil
                        go_simp
                        refine hK _ _ ?_; clear hK K
                        refine wpAnyIn_done (by kernel_rfl) ?_ _
                        gi_wp2
                        go_roundw
                        case rel => exact ⟨t + 1, _, rfl, ⟨by have := HT.out; omega⟩, ⟨(HS1.out.kept (W' := wr.drew.drew) (fun _ _ => rfl)).put f _⟩, ⟨Below.setCell (p := ⟨g, f.toNat, none⟩) (below_drew1 (below_drew1 HB1.out)) (by have := HS1.out.1; show _ ≤ g; omega) _⟩, ⟨((HK1.out.trans (KeepsOthers.drew _)).trans (KeepsOthers.drew _)).trans (KeepsOthers.setCell _ _ _)⟩, ⟨((HP1.out.trans (impl_leapsLeft.kpDrew _ _ _)).trans (impl_leapsLeft.kpDrew _ _ _)).trans (impl_leapsLeft.kpSet _ _ _ _ _)⟩, ⟨(impl_leapsLeft.step_set hc c1 (.inr (by rw [← i64_w]; assumption))).symm.trans HL1.out⟩⟩
                        case measure => first | (simp [intOf]; done) | (simp [intOf]; omega)
                      exact AllReadyIn.nil
                    exact AllReadyIn.nil
                  · go_roundw
                    case rel => exact ⟨t + 1, ys, rfl, ⟨by have := HT.out; omega⟩, ⟨HS1.out.kept (fun _ _ => rfl)⟩, ⟨below_drew1 HB1.out⟩, ⟨HK1.out.trans (KeepsOthers.drew _)⟩, ⟨HP1.out.trans (impl_leapsLeft.kpDrew _ _ _)⟩, ⟨(impl_leapsLeft.step_not hc (fun h => h.2.elim (fun h2 => by omega) (fun h2 => by rw [← i64_w] at h2; omega))).symm.trans HL1.out⟩⟩
                    case measure => first | (simp [intOf]; done) | (simp [intOf]; omega)
                exact AllReadyIn.nil
              exact AllReadyIn.nil
            refine AllReadyIn.cons rfl (fun K hK => ?_) ?_
            · go_simp
              refine hK _ _ ?_; clear hK K
              refine wpAnyIn_take (i := 19) (v := ?_) rfl rfl (by kernel_rfl) (by kernel_rfl) (by kernel_rfl) (fun _ _ _ h => h) ⟨Or.inl ⟨by rfl, ?_⟩, fun _ => rfl⟩ ?_
              rotate_left
              · intro w_; go_simp; first | done | with_reducible rfl | (rw [if_pos (by omega)])
              go_simp
              refine wpAnyIn_ready (rs := [12, 20]) (by kernel_rfl) (by simp) ?_
              refine AllReadyIn.cons rfl (fun K hK => ?_) ?_
              · go_simp
                refine hK _ _ ?_; clear hK K
                refine wpAnyIn_take (i := 14) (v := ?_) rfl rfl (by kernel_rfl) (by kernel_rfl) (by kernel_rfl) (fun _ _ _ h => h) ⟨Or.inl ⟨by rfl, ?_⟩, fun _ => rfl⟩ ?_
                rotate_left
                · intro w_; go_simp; first | done | with_reducible rfl | (rw [if_pos (by omega)])
                go_simp
                refine wpAnyIn_ready (rs := [15, 20]) (by kernel_rfl) (by simp) ?_
                refine AllReadyIn.cons rfl (fun K hK => ?_) ?_
                · go_simp
                  refine hK _ _ ?_; clear hK K
                  refine wpAnyIn_take (i := 16) (v := ?_) rfl rfl (by kernel_rfl) (by kernel_rfl) (by kernel_rfl) (fun _ _ _ h => h) ⟨Or.inl ⟨by rfl, ?_⟩, fun _ => rfl⟩ ?_
                  rotate_left
                  · intro w_; go_simp; first | done | with_reducible rfl | (rw [if_pos (by omega)])
                  go_simp
                  refine wpAnyIn_ready (rs := [20]) (by kernel_rfl) (by simp) ?_
                  refine AllReadyIn.cons rfl (fun K hK => ?_) ?_
                  rotate_left
                  · exact AllReadyIn.nil
                  go_simp
                  refine hK _ _ ?_; clear hK K
                  refine wpAnyIn_take (i := 21) (v := ?_) rfl rfl (by kernel_rfl) (by kernel_rfl) (by kernel_rfl) (fun _ _ _ h => h) ⟨Or.inl ⟨by rfl, ?_⟩, fun _ => rfl⟩ ?_
                  rotate_left
                  · intro w_; go_simp; first | done | with_reducible rfl | (rw [if_pos (by omega)])
                  go_simp
                  refine wpAnyIn_take (i := 22) (v := ?_) rfl rfl (by kernel_rfl) (by kernel_rfl) (by kernel_rfl) (fun _ _ _ h => h) ⟨Or.inl ⟨by rfl, ?_⟩, fun _ => rfl⟩ ?_
                  rotate_left
                  · intro w_; go_simp; first | done | with_reducible rfl | (rw [if_pos (by omega)])
                  go_simp
                  refine wpAnyIn_take (i := 23) (v := ?_) rfl rfl (by kernel_rfl) (by kernel_rfl) (by kernel_rfl) (fun _ _ _ h => h) ⟨Or.inl ⟨by rfl, ?_⟩, fun _ => rfl⟩ ?_
                  rotate_left
                  · intro w_; go_simp; first | done | with_reducible rfl | (rw [if_pos (by omega)])
                  go_simp
                  refine wpAnyIn_done (by kernel_rfl) ?_ _
                  gi_wp2
                  · refine impl_leapsLeft.region_inRound (by kernel_rfl) (by kernel_rfl) ?_
                    refine wpAnyIn_take (i := 1) (v := ?_) rfl rfl (by kernel_rfl) (by kernel_rfl) (by kernel_rfl) (fun _ _ _ h => h) ⟨Or.inl ⟨by rfl, ?_⟩, fun _ => rfl⟩ ?_
                    rotate_left
                    · intro w_; go_simp; first | done | with_reducible rfl | (rw [if_pos (by omega)])
                    go_simp
                    refine wpAnyIn_take (i := 3) (v := ?_) rfl rfl (by kernel_rfl) (by kernel_rfl) (by kernel_rfl) (fun _ _ _ h => h) ⟨Or.inl ⟨by rfl, ?_⟩, fun _ => rfl⟩ ?_
                    rotate_left
                    · intro w_; go_simp; first | done | with_reducible rfl | (rw [if_pos (by omega)])
                    go_simp
                    refine wpAnyIn_ready (rs := [0, 2]) (by kernel_rfl) (by simp) ?_
                    refine AllReadyIn.cons rfl (fun K hK => ?_) ?_
                    · go_simp
                      refine hK _ _ ?_; clear hK K
                      refine wpAnyIn_ready (rs := [2]) (by kernel_rfl) (by simp) ?_
                      refine AllReadyIn.cons rfl (fun K hK => ?_) ?_
                      rotate_left
                      · exact AllReadyIn.nil
                      go_simp
                      refine hK _ _ ?_; clear hK K
                      refine wpAnyIn_take (i := 4) (v := ?_) rfl rfl (by kernel_rfl) (by kernel_rfl) (by kernel_rfl) (fun _ _ _ h => h) ⟨Or.inl ⟨by rfl, ?_⟩, fun _ => rfl⟩ ?_
                      rotate_left
                      · intro w_; go_simp; first | done | with_reducible rfl | (rw [if_pos (by omega)])
                      go_simp
                      refine wpAnyIn_ready (rs := [5]) (by kernel_rfl) (by simp) ?_
                      refine AllReadyIn.cons rfl (fun K hK => ?_) ?_
                      rotate_left
                      · exact AllReadyIn.nil
                      go_simp
                      refine hK _ _ ?_; clear hK K
                      refine wpAnyIn_take (i := 6) (v := ?_) rfl rfl (by kernel_rfl) (by kernel_rfl) (by kernel_rfl) (fun _ _ _ h => h) ⟨Or.inl ⟨by rfl, ?_⟩, fun _ => rfl⟩ ?_
                      rotate_left
                      · intro w_; go_simp; first | done | with_reducible rfl | (rw [if_pos (by omega)])
                      go_simp
                      refine wpAnyIn_take (i := 7) (v := ?_) rfl rfl (by kernel_rfl) (by kernel_rfl) (by kernel_rfl) (fun _ _ _ h => h) ⟨Or.inl ⟨by rfl, ?_⟩, fun _ => rfl⟩ ?_
                      rotate_left
                      · intro w_; go_simp; first | done | with_reducible rfl | (rw [if_pos (by omega)])
                      go_simp
                      refine wpAnyIn_ready (rs := [8]) (by kernel_rfl) (by simp) ?_
                      refine AllReadyIn.cons rfl (fun K hK => ?_) ?_
                      rotate_left
                      · exact AllReadyIn.nil
                      go_simp
                      refine hK _ _ ?_; clear hK K
                      refine wpAnyIn_done (by kernel_rfl) ?_ _
                      gi_wp2
                      go_roundw
                      case rel => exact ⟨t + 1, _, rfl, ⟨by have := HT.out; omega⟩, ⟨(HS1.out.kept (W' := wr.drew.drew) (fun _ _ => rfl)).put f _⟩, ⟨Below.setCell (p := ⟨g, f.toNat, none⟩) (below_drew1 (below_drew1 HB1.out)) (by have := HS1.out.1; show _ ≤ g; omega) _⟩, ⟨((HK1.out.trans (KeepsOthers.drew _)).trans (KeepsOthers.drew _)).trans (KeepsOthers.setCell _ _ _)⟩, ⟨((HP1.out.trans (impl_leapsLeft.kpDrew _ _ _)).trans (impl_leapsLeft.kpDrew _ _ _)).trans (impl_leapsLeft.kpSet _ _ _ _ _)⟩, ⟨(impl_leapsLeft.step_set hc c1 (.inr (by rw [← i64_w]; assumption))).symm.trans HL1.out⟩⟩
                      case measure => first | (simp [intOf]; done) | (simp [intOf]; omega)
                    refine AllReadyIn.cons rfl (fun K hK => ?_) ?_
                    · go_simp
                      refine hK _ _ ?_; clear hK K
                      refine wpAnyIn_take (i := 4) (v := ?_) rfl rfl (by kernel_rfl) (by kernel_rfl) (by kernel_rfl) (fun _ _ _ h => h) ⟨Or.inl ⟨by rfl, ?_⟩, fun _ => rfl⟩ ?_
                      rotate_left
                      · intro w_; go_simp; first | done | with_reducible rfl | (rw [if_pos (by omega)])
                      go_simp
                      refine wpAnyIn_ready (rs := [0, 5]) (by kernel_rfl) (by simp) ?_
                      refine AllReadyIn.cons rfl (fun K hK => ?_) ?_
                      · go_simp
                        refine hK _ _ ?_; clear hK K
                        refine wpAnyIn_ready (rs := [5]) (by kernel_rfl) (by simp) ?_
                        refine AllReadyIn.cons rfl (fun K hK => ?_) ?_
                        rotate_left
                        · exact AllReadyIn.nil
                        go_simp
                        refine hK _ _ ?_; clear hK K
                        refine wpAnyIn_take (i := 6) (v := ?_) rfl rfl (by kernel_rfl) (by kernel_rfl) (by kernel_rfl) (fun _ _ _ h => h) ⟨Or.inl ⟨by rfl, ?_⟩, fun _ => rfl⟩ ?_
                        rotate_left
                        · intro w_; go_simp; first | done | with_reducible rfl | (rw [if_pos (by omega)])
                        go_simp
                        refine wpAnyIn_take (i := 7) (v := ?_) rfl rfl (by kernel_rfl) (by kernel_rfl) (by kernel_rfl) (fun _ _ _ h => h) ⟨Or.inl ⟨by rfl, ?_⟩, fun _ => rfl⟩ ?_
                        rotate_left
                        · intro w_; go_simp; first | done | with_reducible rfl | (rw [if_pos (by omega)])
                        go_simp
                        refine wpAnyIn_ready (rs := [8]) (by kernel_rfl) (by simp) ?_
                        refine AllReadyIn.cons rfl (fun K hK => ?_) ?_
                        rotate_left
                        · exact AllReadyIn.nil
                        go_simp
                        refine hK _ _ ?_; clear hK K
                        refine wpAnyIn_done (by kernel_rfl) ?_ _
                        gi_wp2
                        go_roundw
                        case rel => exact ⟨t + 1, _, rfl, ⟨by have := HT.out; omega⟩, ⟨(HS1.out.kept (W' := wr.drew.drew) (fun _ _ => rfl)).put f _⟩, ⟨Below.setCell (p := ⟨g, f.toNat, none⟩) (below_drew1 (below_drew1 HB1.out)) (by have := HS1.out.1; show _ ≤ g; omega) _⟩, ⟨((HK1.out.trans (KeepsOthers.drew _)).trans (KeepsOthers.drew _)).trans (KeepsOthers.setCell _ _ _)⟩, ⟨((HP1.out.trans (impl_leapsLeft.kpDrew _ _ _)).trans (impl_leapsLeft.kpDrew _ _ _)).trans (impl_leapsLeft.kpSet _ _ _ _ _)⟩, ⟨(impl_leapsLeft.step_set hc c1 (.inr (by rw [← i64_w]; assumption))).symm.trans HL1.out⟩⟩
                        case measure => first | (simp [intOf]; done) | (simp [intOf]; omega)
                      refine AllReadyIn.cons rfl (fun K hK => ?_) ?_
                      · go_simp
                        refine hK _ _ ?_; clear hK K
                        refine wpAnyIn_take (i := 6) (v := ?_) rfl rfl (by kernel_rfl) (by kernel_rfl) (by kernel_rfl) (fun _ _ _ h => h) ⟨Or.inl ⟨by rfl, ?_⟩, fun _ => rfl⟩ ?_
                        rotate_left
                        · intro w_; go_simp; first | done | with_reducible rfl | (rw [if_pos (by omega)])
                        go_simp
                        refine wpAnyIn_ready (rs := [0]) (by kernel_rfl) (by simp) ?_
                        refine AllReadyIn.cons rfl (fun K hK => ?_) ?_
                        rotate_left
                        · exact AllReadyIn.nil
                        go_simp
                        refine hK _ _ ?_; clear hK K
                        refine wpAnyIn_take (i := 7) (v := ?_) rfl rfl (by kernel_rfl) (by kernel_rfl) (by kernel_rfl) (fun _ _ _ h => h) ⟨Or.inl ⟨by rfl, ?_⟩, fun _ => rfl⟩ ?_
                        rotate_left
                        · intro w_; go_simp; first | done | with_reducible rfl | (rw [if_pos (by omega)])
                        go_simp
                        refine wpAnyIn_ready (rs := [8]) (by kernel_rfl) (by simp) ?_
                        refine AllReadyIn.cons rfl (fun K hK => ?_) ?_
                        rotate_left
                        · exact AllReadyIn.nil
                        go_simp
                        refine hK _ _ ?_; clear hK K
                        refine wpAnyIn_done (by kernel_rfl) ?_ _
                        gi_wp2
                        go_roundw
                        case rel => exact ⟨t + 1, _, rfl, ⟨by have := HT.out; omega⟩, ⟨(HS1.out.kept (W' := wr.drew.drew) (fun _ _ => rfl)).put f _⟩, ⟨Below.setCell (p := ⟨g, f.toNat, none⟩) (below_drew1 (below_drew1 HB1.out)) (by have := HS1.out.1; show _ ≤ g; omega) _⟩, ⟨((HK1.out.trans (KeepsOthers.drew _)).trans (KeepsOthers.drew _)).trans (KeepsOthers.setCell _ _ _)⟩, ⟨((HP1.out.trans (impl_leapsLeft.kpDrew _ _ _)).trans (impl_leapsLeft.kpDrew _ _ _)).trans (impl_leapsLeft.kpSet _ _ _ _ _)⟩, ⟨(impl_leapsLeft.step_set hc c1 (.inr (by rw [← i64_w]; assumption))).symm.trans HL1.out⟩⟩
                        case measure => first | (simp [intOf]; done) | (simp [intOf]; omega)
                      exact AllReadyIn.nil
                    exact AllReadyIn.nil
                  · go_roundw
                    case rel => exact ⟨t + 1, ys, rfl, ⟨by have := HT.out; omega⟩, ⟨HS1.out.kept (fun _ _ => rfl)⟩, ⟨below_drew1 HB1.out⟩, ⟨HK1.out.trans (KeepsOthers.drew _)⟩, ⟨HP1.out.trans (impl_leapsLeft.kpDrew _ _ _)⟩, ⟨(impl_leapsLeft.step_not hc (fun h => h.2.elim (fun h2 => by omega) (fun h2 => by rw [← i64_w] at h2; omega))).symm.trans HL1.out⟩⟩
                    case measure => first | (simp [intOf]; done) | (simp [intOf]; omega)
                refine AllReadyIn.cons rfl (fun K hK => ?_) ?_
                · go_simp
                  refine hK _ _ ?_; clear hK K
                  refine wpAnyIn_ready (rs := [15]) (by kernel_rfl) (by simp) ?_
                  refine AllReadyIn.cons rfl (fun K hK => ?_) ?_
                  rotate_left
                  · exact AllReadyIn.nil
                  go_simp
                  refine hK _ _ ?_; clear hK K
                  refine wpAnyIn_take (i := 16) (v := ?_) rfl rfl (by kernel_rfl) (by kernel_rfl) (by kernel_rfl) (fun _ _ _ h => h) ⟨Or.inl ⟨by rfl, ?_⟩, fun _ => rfl⟩ ?_
                  rotate_left
                  · intro w_; go_simp; first | done | with_reducible rfl | (rw [if_pos (by omega)])
                  go_simp
                  refine wpAnyIn_take (i := 21) (v := ?_) rfl rfl (by kernel_rfl) (by kernel_rfl) (by kernel_rfl) (fun _ _ _ h => h) ⟨Or.inl ⟨by rfl, ?_⟩, fun _ => rfl⟩ ?_
                  rotate_left
                  · intro w_; go_simp; first | done | with_reducible rfl | (rw [if_pos (by omega)])
                  go_simp
                  refine wpAnyIn_take (i := 22) (v := ?_) rfl rfl (by kernel_rfl) (by kernel_rfl) (by kernel_rfl) (fun _ _ _ h => h) ⟨Or.inl ⟨by rfl, ?_⟩, fun _ => rfl⟩ ?_
                  rotate_left
                  · intro w_; go_simp; first | done | with_reducible rfl | (rw [if_pos (by omega)])
                  go_simp
                  refine wpAnyIn_take (i := 23) (v := ?_) rfl rfl (by kernel_rfl) (by kernel_rfl) (by kernel_rfl) (fun _ _ _ h => h) ⟨Or.inl ⟨by rfl, ?_⟩, fun _ => rfl⟩ ?_
                  rotate_left
                  · intro w_; go_simp; first | done | with_reducible rfl | (rw [if_pos (by omega)])
                  go_simp
                  refine wpAnyIn_done (by kernel_rfl) ?_ _
                  gi_wp2
                  · refine impl_leapsLeft.region_inRound (by kernel_rfl) (by kernel_rfl) ?_
                    refine wpAnyIn_take (i := 1) (v := ?_) rfl rfl (by kernel_rfl) (by kernel_rfl) (by kernel_rfl) (fun _ _ _ h => h) ⟨Or.inl ⟨by rfl, ?_⟩, fun _ => rfl⟩ ?_
                    rotate_left
                    · intro w_; go_simp; first | done | with_reducible rfl | (rw [if_pos (by omega)])
                    go_simp
                    refine wpAnyIn_take (i := 3) (v := ?_) rfl rfl (by kernel_rfl) (by kernel_rfl) (by kernel_rfl) (fun _ _ _ h => h) ⟨Or.inl ⟨by rfl, ?_⟩, fun _ => rfl⟩ ?_
                    rotate_left
                    · intro w_; go_simp; first | done | with_reducible rfl | (rw [if_pos (by omega)])
                    go_simp
                    refine wpAnyIn_ready (rs := [0, 2]) (by kernel_rfl) (by simp) ?_
                    refine AllReadyIn.cons rfl (fun K hK => ?_) ?_
                    · go_simp
                      refine hK _ _ ?_; clear hK K
                      refine wpAnyIn_ready (rs := [2]) (by kernel_rfl) (by simp) ?_
                      refine AllReadyIn.cons rfl (fun K hK => ?_) ?_
                      rotate_left
                      · exact AllReadyIn.nil
                      go_simp
                      refine hK _ _ ?_; clear hK K
                      refine wpAnyIn_take (i := 4) (v := ?_) rfl rfl (by kernel_rfl) (by kernel_rfl) (by kernel_rfl) (fun _ _ _ h => h) ⟨Or.inl ⟨by rfl, ?_⟩, fun _ => rfl⟩ ?_
                      rotate_left
                      · intro w_; go_simp; first | done | with_reducible rfl | (rw [if_pos (by omega)])
                      go_simp
                      refine wpAnyIn_ready (rs := [5]) (by kernel_rfl) (by simp) ?_
                      refine AllReadyIn.cons rfl (fun K hK => ?_) ?_
                      rotate_left
                      · exact AllReadyIn.nil
                      go_simp
                      refine hK _ _ ?_; clear hK K
                      refine wpAnyIn_take (i := 6) (v := ?_) rfl rfl (by kernel_rfl) (by kernel_rfl) (by kernel_rfl) (fun _ _ _ h => h) ⟨Or.inl ⟨by rfl, ?_⟩, fun _ => rfl⟩ ?_
                      rotate_left
                      · intro w_; go_simp; first | done | with_reducible rfl | (rw [if_pos (by omega)])
                      go_simp
                      refine wpAnyIn_take (i := 7) (v := ?_) rfl rfl (by kernel_rfl) (by kernel_rfl) (by kernel_rfl) (fun _ _ _ h => h) ⟨Or.inl ⟨by rfl, ?_⟩, fun _ => rfl⟩ ?_
                      rotate_left
                      · intro w_; go_simp; first | done | with_reducible rfl | (rw [if_pos (by omega)])
                      go_simp
                      refine wpAnyIn_ready (rs := [8]) (by kernel_rfl) (by simp) ?_
                      refine AllReadyIn.cons rfl (fun K hK => ?_) ?_
                      rotate_left
                      · exact AllReadyIn.nil
                      go_simp
                      refine hK _ _ ?_; clear hK K
                      refine wpAnyIn_done (by kernel_rfl) ?_ _
                      gi_wp2
                      go_roundw
                      case rel => exact ⟨t + 1, _, rfl, ⟨by have := HT.out; omega⟩, ⟨(HS1.out.kept (W' := wr.drew.drew) (fun _ _ => rfl)).put f _⟩, ⟨Below.setCell (p := ⟨g, f.toNat, none⟩) (below_drew1 (below_drew1 HB1.out)) (by have := HS1.out.1; show _ ≤ g; omega) _⟩, ⟨((HK1.out.trans (KeepsOthers.drew _)).trans (KeepsOthers.drew _)).trans (KeepsOthers.setCell _ _ _)⟩, ⟨((HP1.out.trans (impl_leapsLeft.kpDrew _ _ _)).trans (impl_leapsLeft.kpDrew _ _ _)).trans (impl_leapsLeft.kpSet _ _ _ _ _)⟩, ⟨(impl_leapsLeft.step_set hc c1 (.inr (by rw [← i64_w]; assumption))).symm.trans HL1.out⟩⟩
                      case measure => first | (simp [intOf]; done) | (simp [intOf]; omega)
                    refine AllReadyIn.cons rfl (fun K hK => ?_) ?_
                    · go_simp
                      refine hK _ _ ?_; clear hK K
                      refine wpAnyIn_take (i := 4) (v := ?_) rfl rfl (by kernel_rfl) (by kernel_rfl) (by kernel_rfl) (fun _ _ _ h => h) ⟨Or.inl ⟨by rfl, ?_⟩, fun _ => rfl⟩ ?_
                      rotate_left
                      · intro w_; go_simp; first | done | with_reducible rfl | (rw [if_pos (by omega)])
                      go_simp
                      refine wpAnyIn_ready (rs := [0, 5]) (by kernel_rfl) (by simp) ?_
                      refine AllReadyIn.cons rfl (fun K hK => ?_) ?_
                      · go_simp
                        refine hK _ _ ?_; clear hK K
                        refine wpAnyIn_ready (rs := [5]) (by kernel_rfl) (by simp) ?_
                        refine AllReadyIn.cons rfl (fun K hK => ?_) ?_
                        rotate_left
                        · exact AllReadyIn.nil
                        go_simp
                        refine hK _ _ ?_; clear hK K
                        refine wpAnyIn_take (i := 6) (v := ?_) rfl rfl (by kernel_rfl) (by kernel_rfl) (by kernel_rfl) (fun _ _ _ h => h) ⟨Or.inl ⟨by rfl, ?_⟩, fun _ => rfl⟩ ?_
                        rotate_left
                        · intro w_; go_simp; first | done | with_reducible rfl | (rw [if_pos (by omega)])
                        go_simp
                        refine wpAnyIn_take (i := 7) (v := ?_) rfl rfl (by kernel_rfl) (by kernel_rfl) (by kernel_rfl) (fun _ _ _ h => h) ⟨Or.inl ⟨by rfl, ?_⟩, fun _ => rfl⟩ ?_
                        rotate_left
                        · intro w_; go_simp; first | done | with_reducible rfl | (rw [if_pos (by omega)])
                        go_simp
                        refine wpAnyIn_ready (rs := [8]) (by kernel_rfl) (by simp) ?_
                        refine AllReadyIn.cons rfl (fun K hK => ?_) ?_
                        rotate_left
                        · exact AllReadyIn.nil
                        go_simp
                        refine hK _ _ ?_; clear hK K
                        refine wpAnyIn_done (by kernel_rfl) ?_ _
                        gi_wp2
                        go_roundw
                        case rel => exact ⟨t + 1, _, rfl, ⟨by have := HT.out; omega⟩, ⟨(HS1.out.kept (W' := wr.drew.drew) (fun _ _ => rfl)).put f _⟩, ⟨Below.setCell (p := ⟨g, f.toNat, none⟩) (below_drew1 (below_drew1 HB1.out)) (by have := HS1.out.1; show _ ≤ g; omega) _⟩, ⟨((HK1.out.trans (KeepsOthers.drew _)).trans (KeepsOthers.drew _)).trans (KeepsOthers.setCell _ _ _)⟩, ⟨((HP1.out.trans (impl_leapsLeft.kpDrew _ _ _)).trans (impl_leapsLeft.kpDrew _ _ _)).trans (impl_leapsLeft.kpSet _ _ _ _ _)⟩, ⟨(impl_leapsLeft.step_set hc c1 (.inr (by rw [← i64_w]; assumption))).symm.trans HL1.out⟩⟩
                        case measure => first | (simp [intOf]; done) | (simp [intOf]; omega)
                      refine AllReadyIn.cons rfl (fun K hK => ?_) ?_
                      · go_simp
                        refine hK _ _ ?_; clear hK K
                        refine wpAnyIn_take (i := 6) (v := ?_) rfl rfl (by kernel_rfl) (by kernel_rfl) (by kernel_rfl) (fun _ _ _ h => h) ⟨Or.inl ⟨by rfl, ?_⟩, fun _ => rfl⟩ ?_
                        rotate_left
                        · intro w_; go_simp; first | done | with_reducible rfl | (rw [if_pos (by omega)])
                        go_simp
                        refine wpAnyIn_ready (rs := [0]) (by kernel_rfl) (by simp) ?_
                        refine AllReadyIn.cons rfl (fun K hK => ?_) ?_
                        rotate_left
                        · exact AllReadyIn.nil
                        go_simp
                        refine hK _ _ ?_; clear hK K
                        refine wpAnyIn_take (i := 7) (v := ?_) rfl rfl (by kernel_rfl) (by kernel_rfl) (by kernel_rfl) (fun _ _ _ h => h) ⟨Or.inl ⟨by rfl, ?_⟩, fun _ => rfl⟩ ?_
                        rotate_left
                        · intro w_; go_simp; first | done | with_reducible rfl | (rw [if_pos (by omega)])
                        go_simp
                        refine wpAnyIn_ready (rs := [8]) (by kernel_rfl) (by simp) ?_
                        refine AllReadyIn.cons rfl (fun K hK => ?_) ?_
                        rotate_left
                        · exact AllReadyIn.nil
                        go_simp
                        refine hK _ _ ?_; clear hK K
                        refine wpAnyIn_done (by kernel_rfl) ?_ _
                        gi_wp2
                        go_roundw
                        case rel => exact ⟨t + 1, _, rfl, ⟨by have := HT.out; omega⟩, ⟨(HS1.out.kept (W' := wr.drew.drew) (fun _ _ => rfl)).put f _⟩, ⟨Below.setCell (p := ⟨g, f.toNat, none⟩) (below_drew1 (below_drew1 HB1.out)) (by have := HS1.out.1; show _ ≤ g; omega) _⟩, ⟨((HK1.out.trans (KeepsOthers.drew _)).trans (KeepsOthers.drew _)).trans (KeepsOthers.setCell _ _ _)⟩, ⟨((HP1.out.trans (impl_leapsLeft.kpDrew _ _ _)).trans (impl_leapsLeft.kpDrew _ _ _)).trans (impl_leapsLeft.kpSet _ _ _ _ _)⟩, ⟨(impl_leapsLeft.step_set hc c1 (.inr (by rw [← i64_w]; assumption))).symm.trans HL1.out⟩⟩
                        case measure => first | (simp [intOf]; done) | (simp [intOf]; omega)
                      exact AllReadyIn.nil
                    exact AllReadyIn.nil
                  · go_roundw
                    case rel => exact ⟨t + 1, ys, rfl, ⟨by have := HT.out; omega⟩, ⟨HS1.out.kept (fun _ _ => rfl)⟩, ⟨below_drew1 HB1.out⟩, ⟨HK1.out.trans (KeepsOthers.drew _)⟩, ⟨HP1.out.trans (impl_leapsLeft.kpDrew _ _ _)⟩, ⟨(impl_leapsLeft.step_not hc (fun h => h.2.elim (fun h2 => by omega) (fun h2 => by rw [← i64_w] at h2; omega))).symm.trans HL1.out⟩⟩
                    case measure => first | (simp [intOf]; done) | (simp [intOf]; omega)
                exact AllReadyIn.nil
              refine AllReadyIn.cons rfl (fun K hK => ?_) ?_
              · go_simp
                refine hK _ _ ?_; clear hK K
                refine wpAnyIn_ready (rs := [12]) (by kernel_rfl) (by simp) ?_
                refine AllReadyIn.cons rfl (fun K hK => ?_) ?_
                rotate_left
                · exact AllReadyIn.nil
                go_simp
                refine hK _ _ ?_; clear hK K
                refine wpAnyIn_take (i := 14) (v := ?_) rfl rfl (by kernel_rfl) (by kernel_rfl) (by kernel_rfl) (fun _ _ _ h => h) ⟨Or.inl ⟨by rfl, ?_⟩, fun _ => rfl⟩ ?_
                rotate_left
                · intro w_; go_simp; first | done | with_reducible rfl | (rw [if_pos (by omega)])
                go_simp
                refine wpAnyIn_ready (rs := [15]) (by kernel_rfl) (by simp) ?_
                refine AllReadyIn.cons rfl (fun K hK => ?_) ?_
                rotate_left
                · exact AllReadyIn.nil
                go_simp
                refine hK _ _ ?_; clear hK K
                refine wpAnyIn_take (i := 16) (v := ?_) rfl rfl (by kernel_rfl) (by kernel_rfl) (by kernel_rfl) (fun _ _ _ h => h) ⟨Or.inl ⟨by rfl, ?_⟩, fun _ => rfl⟩ ?_
                rotate_left
                · intro w_; go_simp; first | done | with_reducible rfl | (rw [if_pos (by omega)])
                go_simp
                refine wpAnyIn_take (i := 21) (v := ?_) rfl rfl (by kernel_rfl) (by kernel_rfl) (by kernel_rfl) (fun _ _ _ h => h) ⟨Or.inl ⟨by rfl, ?_⟩, fun _ => rfl⟩ ?_
                rotate_left
                · intro w_; go_simp; first | done | with_reducible rfl | (rw [if_pos (by omega)])
                go_simp
                refine wpAnyIn_take (i := 22) (v := ?_) rfl rfl (by kernel_rfl) (by kernel_rfl) (by kernel_rfl) (fun _ _ _ h => h) ⟨Or.inl ⟨by rfl, ?_⟩, fun _ => rfl⟩ ?_
                rotate_left
                · intro w_; go_simp; first | done | with_reducible rfl | (rw [if_pos (by omega)])
                go_simp
                refine wpAnyIn_take (i := 23) (v := ?_) rfl rfl (by kernel_rfl) (by kernel_rfl) (by kernel_rfl) (fun _ _ _ h => h) ⟨Or.inl ⟨by rfl, ?_⟩, fun _ => rfl⟩ ?_
                rotate_left
                · intro w_; go_simp; first | done | with_reducible rfl | (rw [if_pos (by omega)])
                go_simp
                refine wpAnyIn_done (by kernel_rfl) ?_ _
                gi_wp2
                · refine impl_leapsLeft.region_inRound (by kernel_rfl) (by kernel_rfl) ?_
                  refine wpAnyIn_take (i := 1) (v := ?_) rfl rfl (by kernel_rfl) (by kernel_rfl) (by kernel_rfl) (fun _ _ _ h => h) ⟨Or.inl ⟨by rfl, ?_⟩, fun _ => rfl⟩ ?_
                  rotate_left
                  · intro w_; go_simp; first | done | with_reducible rfl | (rw [if_pos (by omega)])
                  go_simp
                  refine wpAnyIn_take (i := 3) (v := ?_) rfl rfl (by kernel_rfl) (by kernel_rfl) (by kernel_rfl) (fun _ _ _ h => h) ⟨Or.inl ⟨by rfl, ?_⟩, fun _ => rfl⟩ ?_
                  rotate_left
                  · intro w_; go_simp; first | done | with_reducible rfl | (rw [if_pos (by omega)])
                  go_simp
                  refine wpAnyIn_ready (rs := [0, 2]) (by kernel_rfl) (by simp) ?_
                  refine AllReadyIn.cons rfl (fun K hK => ?_) ?_
                  · go_simp
                    refine hK _ _ ?_; clear hK K
                    refine wpAnyIn_ready (rs := [2]) (by kernel_rfl) (by simp) ?_
                    refine AllReadyIn.cons rfl (fun K hK => ?_) ?_
                    rotate_left
                    · exact AllReadyIn.nil
                    go_simp
                    refine hK _ _ ?_; clear hK K
                    refine wpAnyIn_take (i := 4) (v := ?_) rfl rfl (by kernel_rfl) (by kernel_rfl) (by kernel_rfl) (fun _ _ _ h => h) ⟨Or.inl ⟨by rfl, ?_⟩, fun _ => rfl⟩ ?_
                    rotate_left
                    · intro w_; go_simp; first | done | with_reducible rfl | (rw [if_pos (by omega)])
                    go_simp
                    refine wpAnyIn_ready (rs := [5]) (by kernel_rfl) (by simp) ?_
                    refine AllReadyIn.cons rfl (fun K hK => ?_) ?_
                    rotate_left
                    · exact AllReadyIn.nil
                    go_simp
                    refine hK _ _ ?_; clear hK K
                    refine wpAnyIn_take (i := 6) (v := ?_) rfl rfl (by kernel_rfl) (by kernel_rfl) (by kernel_rfl) (fun _ _ _ h => h) ⟨Or.inl ⟨by rfl, ?_⟩, fun _ => rfl⟩ ?_
                    rotate_left
                    · intro w_; go_simp; first | done | with_reducible rfl | (rw [if_pos (by omega)])
                    go_simp
                    refine wpAnyIn_take (i := 7) (v := ?_) rfl rfl (by kernel_rfl) (by kernel_rfl) (by kernel_rfl) (fun _ _ _ h => h) ⟨Or.inl ⟨by rfl, ?_⟩, fun _ => rfl⟩ ?_
                    rotate_left
                    · intro w_; go_simp; first | done | with_reducible rfl | (rw [if_pos (by omega)])
                    go_simp
                    refine wpAnyIn_ready (rs := [8]) (by kernel_rfl) (by simp) ?_
                    refine AllReadyIn.cons rfl (fun K hK => ?_) ?_
                    rotate_left
                    · exact AllReadyIn.nil
                    go_simp
                    refine hK _ _ ?_; clear hK K
                    refine wpAnyIn_done (by kernel_rfl) ?_ _
                    gi_wp2
                    go_roundw
                    case rel => exact ⟨t + 1, _, rfl, ⟨by have := HT.out; omega⟩, ⟨(HS1.out.kept (W' := wr.drew.drew) (fun _ _ => rfl)).put f _⟩, ⟨Below.setCell (p := ⟨g, f.toNat, none⟩) (below_drew1 (below_drew1 HB1.out)) (by have := HS1.out.1; show _ ≤ g; omega) _⟩, ⟨((HK1.out.trans (KeepsOthers.drew _)).trans (KeepsOthers.drew _)).trans (KeepsOthers.setCell _ _ _)⟩, ⟨((HP1.out.trans (impl_leapsLeft.kpDrew _ _ _)).trans (impl_leapsLeft.kpDrew _ _ _)).trans (impl_leapsLeft.kpSet _ _ _ _ _)⟩, ⟨(impl_leapsLeft.step_set hc c1 (.inr (by rw [← i64_w]; assumption))).symm.trans HL1.out⟩⟩
                    case measure => first | (simp [intOf]; done) | (simp [intOf]; omega)
                  refine AllReadyIn.cons rfl (fun K hK => ?_) ?_
                  · go_simp
                    refine hK _ _ ?_; clear hK K
                    refine wpAnyIn_take (i := 4) (v := ?_) rfl rfl (by kernel_rfl) (by kernel_rfl) (by kernel_rfl) (fun _ _ _ h => h) ⟨Or.inl ⟨by rfl, ?_⟩, fun _ => rfl⟩ ?_
                    rotate_left
                    · intro w_; go_simp; first | done | with_reducible rfl | (rw [if_pos (by omega)])
                    go_simp
                    refine wpAnyIn_ready (rs := [0, 5]) (by kernel_rfl) (by simp) ?_
                    refine AllReadyIn.cons rfl (fun K hK => ?_) ?_
                    · go_simp
                      refine hK _ _ ?_; clear hK K
                      refine wpAnyIn_ready (rs := [5]) (by kernel_rfl) (by simp) ?_
                      refine AllReadyIn.cons rfl (fun K hK => ?_) ?_
                      rotate_left
                      · exact AllReadyIn.nil
                      go_simp
                      refine hK _ _ ?_; clear hK K
                      refine wpAnyIn_take (i := 6) (v := ?_) rfl rfl (by kernel_rfl) (by kernel_rfl) (by kernel_rfl) (fun _ _ _ h => h) ⟨Or.inl ⟨by rfl, ?_⟩, fun _ => rfl⟩ ?_
                      rotate_left
                      · intro w_; go_simp; first | done | with_reducible rfl | (rw [if_pos (by omega)])
                      go_simp
                      refine wpAnyIn_take (i := 7) (v := ?_) rfl rfl (by kernel_rfl) (by kernel_rfl) (by kernel_rfl) (fun _ _ _ h => h) ⟨Or.inl ⟨by rfl, ?_⟩, fun _ => rfl⟩ ?_
                      rotate_left
                      · intro w_; go_simp; first | done | with_reducible rfl | (rw [if_pos (by omega)])
                      go_simp
                      refine wpAnyIn_ready (rs := [8]) (by kernel_rfl) (by simp) ?_
                      refine AllReadyIn.cons rfl (fun K hK => ?_) ?_
                      rotate_left
                      · exact AllReadyIn.nil
                      go_simp
                      refine hK _ _ ?_; clear hK K
                      refine wpAnyIn_done (by kernel_rfl) ?_ _
                      gi_wp2
                      go_roundw
                      case rel => exact ⟨t + 1, _, rfl, ⟨by have := HT.out; omega⟩, ⟨(HS1.out.kept (W' := wr.drew.drew) (fun _ _ => rfl)).put f _⟩, ⟨Below.setCell (p := ⟨g, f.toNat, none⟩) (below_drew1 (below_drew1 HB1.out)) (by have := HS1.out.1; show _ ≤ g; omega) _⟩, ⟨((HK1.out.trans (KeepsOthers.drew _)).trans (KeepsOthers.drew _)).trans (KeepsOthers.setCell _ _ _)⟩, ⟨((HP1.out.trans (impl_leapsLeft.kpDrew _ _ _)).trans (impl_leapsLeft.kpDrew _ _ _)).trans (impl_leapsLeft.kpSet _ _ _ _ _)⟩, ⟨(impl_leapsLeft.step_set hc c1 (.inr (by rw [← i64_w]; assumption))).symm.trans HL1.out⟩⟩
                      case measure => first | (simp [intOf]; done) | (simp [intOf]; omega)
                    refine AllReadyIn.cons rfl (fun K hK => ?_) ?_
                    · go_simp
                      refine hK _ _ ?_; clear hK K
                      refine wpAnyIn_take (i := 6) (v := ?_) rfl rfl (by kernel_rfl) (by kernel_rfl) (by kernel_rfl) (fun _ _ _ h => h) ⟨Or.inl ⟨by rfl, ?_⟩, fun _ => rfl⟩ ?_
                      rotate_left
                      · intro w_; go_simp; first | done | with_reducible rfl | (rw [if_pos (by omega)])
                      go_simp
                      refine wpAnyIn_ready (rs := [0]) (by kernel_rfl) (by simp) ?_
                      refine AllReadyIn.cons rfl (fun K hK => ?_) ?_
                      rotate_left
                      · exact AllReadyIn.nil
                      go_simp
                      refine hK _ _ ?_; clear hK K
                      refine wpAnyIn_take (i := 7) (v := ?_) rfl rfl (by kernel_rfl) (by kernel_rfl) (by kernel_rfl) (fun _ _ _ h => h) ⟨Or.inl ⟨by rfl, ?_⟩, fun _ => rfl⟩ ?_
                      rotate_left
                      · intro w_; go_simp; first | done | with_reducible rfl | (rw [if_pos (by omega)])
                      go_simp
                      refine wpAnyIn_ready (rs := [8]) (by kernel_rfl) (by simp) ?_
                      refine AllReadyIn.cons rfl (fun K hK => ?_) ?_
                      rotate_left
                      · exact AllReadyIn.nil
                      go_simp
                      refine hK _ _ ?_; clear hK K
                      refine wpAnyIn_done (by kernel_rfl) ?_ _
                      gi_wp2
                      go_roundw
                      case rel => exact ⟨t + 1, _, rfl, ⟨by have := HT.out; omega⟩, ⟨(HS1.out.kept (W' := wr.drew.drew) (fun _ _ => rfl)).put f _⟩, ⟨Below.setCell (p := ⟨g, f.toNat, none⟩) (below_drew1 (below_drew1 HB1.out)) (by have := HS1.out.1; show _ ≤ g; omega) _⟩, ⟨((HK1.out.trans (KeepsOthers.drew _)).trans (KeepsOthers.drew _)).trans (KeepsOthers.setCell _ _ _)⟩, ⟨((HP1.out.trans (impl_leapsLeft.kpDrew _ _ _)).trans (impl_leapsLeft.kpDrew _ _ _)).trans (impl_leapsLeft.kpSet _ _ _ _ _)⟩, ⟨(impl_leapsLeft.step_set hc c1 (.inr (by rw [← i64_w]; assumption))).symm.trans HL1.out⟩⟩
                      case measure => first | (simp [intOf]; done) | (simp [intOf]; omega)
                    exact AllReadyIn.nil
                  exact AllReadyIn.nil
                · go_roundw
                  case rel => exact ⟨t + 1, ys, rfl, ⟨by have := HT.out; omega⟩, ⟨HS1.out.kept (fun _ _ => rfl)⟩, ⟨below_drew1 HB1.out⟩, ⟨HK1.out.trans (KeepsOthers.drew _)⟩, ⟨HP1.out.trans (impl_leapsLeft.kpDrew _ _ _)⟩, ⟨(impl_leapsLeft.step_not hc (fun h => h.2.elim (fun h2 => by omega) (fun h2 => by rw [← i64_w] at h2; omega))).symm.trans HL1.out⟩⟩
                  case measure => first | (simp [intOf]; done) | (simp [intOf]; omega)
              exact AllReadyIn.nil
            exact AllReadyIn.nil
        · have e1 : decide (0 ≤ rd ys t) = false := decide_eq_false c1
          refine impl_leapsLeft.region_inRound (by kernel_rfl) (by kernel_rfl) ?_
          refine wpAnyIn_take (i := 1) (v := ?_) rfl rfl (by kernel_rfl) (by kernel_rfl) (by kernel_rfl) (fun _ _ _ h => h) ⟨Or.inl ⟨by rfl, ?_⟩, fun _ => rfl⟩ ?_
          rotate_left
          · intro w_; go_simp; first | done | with_reducible rfl | (rw [if_pos (by omega)])
          go_simp
          refine wpAnyIn_ready (rs := [0]) (by kernel_rfl) (by simp) ?_
          refine AllReadyIn.cons rfl (fun K hK => ?_) ?_
          rotate_left
          · exact AllReadyIn.nil
          go_simp
          refine hK _ _ ?_; clear hK K
          refine wpAnyIn_take (i := 2) (v := ?_) rfl rfl (by kernel_rfl) (by kernel_rfl) (by kernel_rfl) (fun _ _ _ h => h) ⟨Or.inl ⟨by rfl, ?_⟩, fun _ => rfl⟩ ?_
          rotate_left
          · intro w_; go_simp; first | done | with_reducible rfl | (rw [if_pos (by omega)])
          go_simp
          refine wpAnyIn_ready (rs := [3]) (by kernel_rfl) (by simp) ?_
          refine AllReadyIn.cons rfl (fun K hK => ?_) ?_
          rotate_left
          · exact AllReadyIn.nil
          go_simp
          refine hK _ _ ?_; clear hK K
          refine wpAnyIn_take (i := 4) (v := ?_) rfl rfl (by kernel_rfl) (by kernel_rfl) (by kernel_rfl) (fun _ _ _ h => h) ⟨Or.inl ⟨by rfl, ?_⟩, fun _ => rfl⟩ ?_
          rotate_left
          · intro w_; go_simp; first | done | with_reducible rfl | (rw [if_pos (by omega)])
          go_simp
          refine wpAnyIn_take (i := 5) (v := ?_) rfl rfl (by kernel_rfl) (by kernel_rfl) (by kernel_rfl) (fun _ _ _ h => h) ⟨Or.inl ⟨by rfl, ?_⟩, fun _ => rfl⟩ ?_
          rotate_left
          · intro w_; go_simp; first | done | with_reducible rfl | (rw [if_pos (by omega)])
          go_simp
          refine wpAnyIn_take (i := 6) (v := undef) rfl rfl (by kernel_rfl) (by kernel_rfl) (by kernel_rfl) (fun _ _ _ h => h) ⟨Or.inr ⟨by rfl, rfl⟩, fun _ => rfl⟩ ?_
          go_simp
          refine wpAnyIn_take (i := 7) (v := undef) rfl rfl (by kernel_rfl) (by kernel_rfl) (by kernel_rfl) (fun _ _ _ h => h) ⟨Or.inr ⟨by rfl, rfl⟩, fun _ => rfl⟩ ?_
          go_simp
          refine wpAnyIn_take (i := 8) (v := undef) rfl rfl (by kernel_rfl) (by kernel_rfl) (by kernel_rfl) (fun _ _ _ h => h) ⟨Or.inr ⟨by rfl, rfl⟩, fun _ => rfl⟩ ?_
          go_simp
          refine wpAnyIn_take (i := 9) (v := undef) rfl rfl (by kernel_rfl) (by kernel_rfl) (by kernel_rfl) (fun _ _ _ h => h) ⟨Or.inr ⟨by rfl, rfl⟩, fun _ => rfl⟩ ?_
          go_simp
          refine wpAnyIn_take (i := 10) (v := undef) rfl rfl (by kernel_rfl) (by kernel_rfl) (by kernel_rfl) (fun _ _ _ h => h) ⟨Or.inr ⟨by rfl, rfl⟩, fun _ => rfl⟩ ?_
          go_simp
          refine wpAnyIn_take (i := 11) (v := undef) rfl rfl (by kernel_rfl) (by kernel_rfl) (by kernel_rfl) (fun _ _ _ h => h) ⟨Or.inr ⟨by rfl, rfl⟩, fun _ => rfl⟩ ?_
          go_simp
          refine wpAnyIn_take (i := 12) (v := undef) rfl rfl (by kernel_rfl) (by kernel_rfl) (by kernel_rfl) (fun _ _ _ h => h) ⟨Or.inr ⟨by rfl, rfl⟩, fun _ => rfl⟩ ?_
          go_simp
          refine wpAnyIn_take (i := 13) (v := undef) rfl rfl (by kernel_rfl) (by kernel_rfl) (by kernel_rfl) (fun _ _ _ h => h) ⟨Or.inr ⟨by rfl, rfl⟩, fun _ => rfl⟩ ?_
          go_simp
          refine wpAnyIn_take (i := 14) (v := undef) rfl rfl (by kernel_rfl) (by kernel_rfl) (by kernel_rfl) (fun _ _ _ h => h) ⟨Or.inr ⟨by rfl, rfl⟩, fun _ => rfl⟩ ?_
          go_simp
          refine wpAnyIn_take (i := 15) (v := undef) rfl rfl (by kernel_rfl) (by kernel_rfl) (by kernel_rfl) (fun _ _ _ h => h) ⟨Or.inr ⟨by rfl, rfl⟩, fun _ => rfl⟩ ?_
          go_simp
          refine wpAnyIn_take (i := 16) (v := undef) rfl rfl (by kernel_rfl) (by kernel_rfl) (by kernel_rfl) (fun _ _ _ h => h) ⟨Or.inr ⟨by rfl, rfl⟩, fun _ => rfl⟩ ?_
          go_simp
          refine wpAnyIn_take (i := 17) (v := undef) rfl rfl (by kernel_rfl) (by kernel_rfl) (by kernel_rfl) (fun _ _ _ h => h) ⟨Or.inr ⟨by rfl, rfl⟩, fun _ => rfl⟩ ?_
          go_simp
          refine wpAnyIn_take (i := 18) (v := undef) rfl rfl (by kernel_rfl) (by kernel_rfl) (by kernel_rfl) (fun _ _ _ h => h) ⟨Or.inr ⟨by rfl, rfl⟩, fun _ => rfl⟩ ?_
          go_simp
          refine wpAnyIn_take (i := 19) (v := undef) rfl rfl (by kernel_rfl) (by kernel_rfl) (by kernel_rfl) (fun _ _ _ h => h) ⟨Or.inr ⟨by rfl, rfl⟩, fun _ => rfl⟩ ?_
          go_simp
          refine wpAnyIn_take (i := 20) (v := undef) rfl rfl (by kernel_rfl) (by kernel_rfl) (by kernel_rfl) (fun _ _ _ h => h) ⟨Or.inr ⟨by rfl, rfl⟩, fun _ => rfl⟩ ?_
          go_simp
          refine wpAnyIn_take (i := 21) (v := undef) rfl rfl (by kernel_rfl) (by kernel_rfl) (by kernel_rfl) (fun _ _ _ h => h) ⟨Or.inr ⟨by rfl, rfl⟩, fun _ => rfl⟩ ?_
          go_simp
          refine wpAnyIn_take (i := 22) (v := undef) rfl rfl (by kernel_rfl) (by kernel_rfl) (by kernel_rfl) (fun _ _ _ h => h) ⟨Or.inr ⟨by rfl, rfl⟩, fun _ => rfl⟩ ?_
          go_simp
          refine wpAnyIn_take (i := 23) (v := ?_) rfl rfl (by kernel_rfl) (by kernel_rfl) (by kernel_rfl) (fun _ _ _ h => h) ⟨Or.inl ⟨by rfl, ?_⟩, fun _ => rfl⟩ ?_
          rotate_left
          · intro w_; go_simp; first | done | with_reducible rfl | (rw [if_pos (by omega)])
          go_simp
          refine wpAnyIn_done (by kernel_rfl) ?_ _
          gi_wp2
          go_roundw
          case rel => exact ⟨t + 1, ys, rfl, ⟨by have := HT.out; omega⟩, ⟨HS1.out.kept (fun _ _ => rfl)⟩, ⟨below_drew1 HB1.out⟩, ⟨HK1.out.trans (KeepsOthers.drew _)⟩, ⟨HP1.out.trans (impl_leapsLeft.kpDrew _ _ _)⟩, ⟨(impl_leapsLeft.step_not hc (fun h => by have := h.1; omega)).symm.trans HL1.out⟩⟩
          case measure => first | (simp [intOf]; done) | (simp [intOf]; omega)
      · gi_wp2
        refine ⟨HK1.out, HP1.out, ?_, HB1.out⟩
        rw [HX.out, ← HL1.out, show (m + 1 - t).toNat = 0 by omega]
        exact HS1.out
  case done =>
    rintro D ys W hD hys ⟨hSt, hB⟩ hK
    have hc := hSt.2.2.2.1.cell
    gi_wp2
    refine ⟨by simp, .inl ⟨_, _, rfl, run_takeDeferred hK, ?_⟩⟩
    simp only [World.size_alloc] at hD
    have hHB := HB.out.size
    simp only [World.size_alloc] at hHB
    have hl2 : ys.map (fun x => x.1.2) = l.reverse := by
      have := congrArg (List.map (fun x : Nat × Int => x.2)) hys
      rw [List.map_map, slices_Backward_int_int.upto_rev l l.length rfl] at this
      exact this
    have hR := (hSt.kept (W' := W.putObj D (.deferred none)) (fun k hk => World.putObj_heap_other (by omega))).2.2.2.2
    rw [hl2] at hR
    have he := HR.out
    unfold impl_leapsLeft.row at he
    rw [he] at hR
    exact ⟨_, results_tmp rfl _ _ _, _, rfl, Kd.R_mono hR (fun _ _ => trivial), hB.trans (belowK_b (w := w) (Nat.le_refl _) W D _ _ (by omega) hK rfl rfl)⟩
  case stop =>
    rintro D c pre W _ _ h _
    exact h.elim
end

end Go.Proofs.YtlcgimeebhoefaaDoor.PFnExactIdleStones
