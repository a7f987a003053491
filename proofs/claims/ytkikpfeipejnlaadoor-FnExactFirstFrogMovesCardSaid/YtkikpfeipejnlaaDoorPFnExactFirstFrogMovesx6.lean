-- Printed by this session's eprint.py over the kit's print (with this session's own texts for some functions)
import Derived.Test.YtkikpfeipejnlaaDoorPFnExactFirstFrogMovesx0
import Derived.Test.YtkikpfeipejnlaaDoorPFnExactFirstFrogMovesx1
import Derived.Test.YtkikpfeipejnlaaDoorPFnExactFirstFrogMovesx5
namespace Go.Proofs.YtkikpfeipejnlaaDoor.PFnExactFirstFrogMoves
open Go.RowKit Go.Proofs.YtkikpfeipejnlaaDoorW.PrintWords Go.Proofs.YtkikpfeipejnlaaDoorW.PrintLast Go.Proofs.YtkikpfeipejnlaaDoorW.PrintMore
attribute [local go_sem] max2_int min2_int max_two min_two max_three min_three max_four min_four   -- for this text's walks alone
set_option linter.unusedVariables false
set_option linter.unusedSimpArgs false

/-! ### impl_plays_of: function 48 -/
--USES helper_region
/-- A fate: the least and the greatest number of moves to an end, and how many lists of moves there are. -/
abbrev plF : Type := Int × Int × Int
def plV (f : plF) : Value := .agg #[.int .i64 f.1, .int .i64 f.2.1, .int .i64 f.2.2]
def plD (f : plF) : DataW Unit := .agg [.lit (.int .i64 f.1), .lit (.int .i64 f.2.1), .lit (.int .i64 f.2.2)]
/-- How a fate in the map reads. -/
def plR : Value → Option (DataW Unit × List MemPlace)
  | .agg xs => match xs.toList with
    | [.int .i64 a, .int .i64 b, .int .i64 c] => some (plD (a, b, c), [])
    | _ => none
  | _ => none
theorem plR_mk (f : plF) : plR (plV f) = some (plD f, []) := rfl
theorem plD_inj {f g : plF} (h : plD f = plD g) : f = g := by
  obtain ⟨a, b, c⟩ := f
  obtain ⟨x, y, z⟩ := g
  unfold plD at h
  simp only [DataW.agg.injEq, List.cons.injEq, DataW.lit.injEq, Lit.int.injEq, true_and, and_true] at h
  obtain ⟨rfl, rfl, rfl⟩ := h
  rfl
theorem plR_inv {v : Value} {z : DataW Unit × List MemPlace} (h : plR v = some z) : ∃ f : plF, v = plV f ∧ z = (plD f, []) := by
  unfold plR at h
  split at h
  · rename_i xs
    split at h
    · rename_i a b c hx
      refine ⟨(a, b, c), ?_, (Option.some.inj h).symm⟩
      unfold plV
      congr 1
      apply Array.toList_inj.1
      exact hx
    · cases h
  · cases h
/-- What is known, the last one first. -/
abbrev plM : Type := List (ByteArray × plF)
def plKey (s : ByteArray) : Lit := .string s.data.toList
def plFnd : plM → ByteArray → Option plF
  | [], _ => none
  | (t, f) :: M, s => if t.data.toList = s.data.toList then some f else plFnd M s
def plDm : plM → DataW Unit
  | [] => .map []
  | (t, f) :: M => (plDm M).put (plKey t) (plD f)
theorem plDm_map : ∀ M : plM, Maps.IsMap (plDm M)
  | [] => Maps.isMap_empty
  | _ :: M => (plDm_map M).put _ _
theorem plDm_has (s : ByteArray) : ∀ M : plM, Maps.has (plDm M) (plKey s) = (plFnd M s).isSome
  | [] => rfl
  | (t, f) :: M => by
    simp only [plDm, plFnd]
    by_cases e : t.data.toList = s.data.toList
    · have e' : plKey s = plKey t := by unfold plKey; rw [e]
      rw [if_pos e, e', Maps.has_put_same (plDm_map M) (show WideAt.IsKeyLit (plKey t) from trivial)]; rfl
    · have e' : plKey s ≠ plKey t := fun h => e (by unfold plKey at h; injection h with h; exact h.symm)
      rw [if_neg e, Maps.has_put_other e', plDm_has s M]
theorem plDm_at (s : ByteArray) (z : DataW Unit) : ∀ M : plM, (plDm M).atKey (plKey s) z = match plFnd M s with | some f => plD f | none => z
  | [] => rfl
  | (t, f) :: M => by
    simp only [plDm, plFnd]
    by_cases e : t.data.toList = s.data.toList
    · have e' : plKey s = plKey t := by unfold plKey; rw [e]
      rw [if_pos e, e', Maps.atKey_put_same (plDm_map M) (show WideAt.IsKeyLit (plKey t) from trivial)]
    · have e' : plKey s ≠ plKey t := fun h => e (by unfold plKey at h; injection h with h; exact h.symm)
      rw [if_neg e, Maps.atKey_put_other e', plDm_at s z M]
/-- The map in memory. -/
def plMem (W : World) (B : Nat) (M : plM) : Prop := W.ownsMap (H := Unit) Tryd.prog 9 plR B M.length (plDm M)
theorem plLaw : Maps.Keyed Tryd.prog 9 := Maps.string_keyed Tryd.underlying9
theorem plZero (w : World) : (zeroValue 55).run Tryd.prog w = .ok (plV (0, 0, 0)) w := by kernel_rfl
theorem plMem.kept {W W' : World} {B : Nat} {M : plM} {row : Option Nat} (h : plMem W B M) (hg : W.grownBy W' row) (hne : some B ≠ row) : plMem W' B M := World.ownsMap.kept h hg hne
theorem plMem.lt {W : World} {B : Nat} {M : plM} (h : plMem W B M) : B < W.heap.size := World.ownsMap.lt h
theorem plMem.below {W W' : World} {B : Nat} {M : plM} (h : plMem W B M) (hb : Below W.heap.size W W') : plMem W' B M := h.kept (row := none) ⟨hb.os, hb.tape, hb.output, hb.size, fun k hk _ => hb.block k hk⟩ (by simp)
theorem plMem.ne {W : World} {B b : Nat} {M : plM} {cs : Array Value} {t : TypeId} {p : Nat × Nat} (h : plMem W B M) (hb : W.heap[b]? = some (.cells cs t p)) : B ≠ b := by
  rintro rfl
  obtain ⟨es, clock, hm, _⟩ := h
  rw [hm] at hb
  simp at hb
theorem plMem.look {W : World} {B : Nat} {M : plM} (h : plMem W B M) (s : ByteArray) (hs : s.size ≤ 1000) : (Instr.lookup 49 (.map (some B)) (.string s) true).run Tryd.prog W = .ok (.tuple #[plV ((plFnd M s).getD (0, 0, 0)), .bool (plFnd M s).isSome]) W := by
  obtain ⟨v, ps, hrun, hv⟩ := World.ownsMap.look_ok h plLaw Tryd.underlying49 (plZero W) (plR_mk (0, 0, 0)) (WideMaps.keyOf_string_mk Tryd.underlying9 (s := s) (by unfold maxLen; omega))
  rw [hrun, show Lit.string s.data.toList = plKey s from rfl, plDm_has]
  obtain ⟨f, rfl, hz⟩ := plR_inv hv
  rw [show Lit.string s.data.toList = plKey s from rfl, plDm_at] at hz
  have : f = (plFnd M s).getD (0, 0, 0) := by
    apply plD_inj
    have := congrArg Prod.fst hz
    dsimp only at this
    rw [← this]
    cases plFnd M s <;> rfl
  rw [this]
theorem plMem.put {W : World} {B : Nat} {M : plM} (h : plMem W B M) (s : ByteArray) (hs : s.size ≤ 1000) (f : plF) (hn : M.length < 1000000000) : ∃ W', (Instr.mapUpdate 49 (.map (some B)) (.string s) (plV f)).run Tryd.prog W = .ok () W' ∧ plMem W' B ((s, f) :: M) ∧ W.grownBy W' (some B) :=
  World.ownsMap.update h plLaw Tryd.underlying49 (by unfold maxLen; omega) (WideMaps.keyOf_string_mk Tryd.underlying9 (s := s) (by unfold maxLen; omega)) (plR_mk f)
def plUpd (o n : plF) : plF := (if o.1 < 0 ∨ wrap64 (n.1 + 1) < o.1 then wrap64 (n.1 + 1) else o.1, mx o.2.1 (wrap64 (n.2.1 + 1)), wrap64 (o.2.2 + n.2.2))
def plRnd (g : plM → ByteArray → Option (plF × plM)) (s : ByteArray) : List Int → plF → plM → Option (plF × plM)
  | [], out, M => some (out, M)
  | m :: ms, out, M => (impl_hopped.f s m).bind fun t => (g M t).bind fun n => plRnd g s ms (if n.1.2.2 = 0 then out else plUpd out n.1) n.2
/-- What the method 'of' answers, and what is known behind it. -/
def plOf (E : ByteArray → Option Bool) (k : Nat) : Nat → plM → ByteArray → Option (plF × plM)
  | 0, _, _ => none
  | d + 1, M, s => if s.size ≤ 1000 then (match plFnd M s with
    | some f => some (f, M)
    | none => (E s).bind fun b => (impl_hops.f k s).bind fun ms => if ms.length ≤ 1000 then (plRnd (plOf E k d) s ms (if b = true then (0, 0, 1) else (-1, -1, 0)) M).bind fun r => if r.2.length < 1000000000 then some (r.1, (s, r.1) :: r.2) else none else none) else none
theorem plGrown {W W' : World} (hb : Below W.heap.size W W') (row : Option Nat) : W.grownBy W' row := ⟨hb.os, hb.tape, hb.output, hb.size, fun k hk _ => hb.block k hk⟩
/-- A row of numbers that lies in a block (or no row). -/
def plRow (W : World) (base : Nat) (v : Value) (xs : List Int) : Prop := ∃ (A : Option Addr) (c : Nat), v = .slice A xs.length c ∧ (xs = [] ∨ ∃ (g : Nat) (arr : Array Value), base ≤ g ∧ A = some ⟨g, 0, none⟩ ∧ W.heap[g]? = some (.cells arr 3 (0, 0)) ∧ ∀ i, i < xs.length → arr[i]? = some (.int .i64 (rd xs (i : Int))))
theorem plRow.ofR {W : World} {base : Nat} {v : Value} {xs : List Int} (h : Kd.R (Kd.int .i64) 3 W base (fun _ => True) v xs) : plRow W base v xs := by
  by_cases hp : 0 < xs.length
  · obtain ⟨g, c, hv, hb, _, cells, hc⟩ := Kd.R_form h hp
    subst hv
    refine ⟨_, c, rfl, .inr ⟨g, cells, hb, rfl, hc, fun i hi => ?_⟩⟩
    have h1 := (Kd.R_celln 0 h (i : Int) (by omega) (by omega)).1
    rw [Int.toNat_natCast, blk_cell hc] at h1
    exact h1
  · obtain ⟨A, c, hv⟩ := Kd.R_slice h
    exact ⟨A, c, hv, .inl (List.eq_nil_of_length_eq_zero (by omega))⟩
theorem plRow.kept {W W' : World} {base B : Nat} {v : Value} {xs : List Int} (h : plRow W base v xs) (hg : W.grownBy W' (some B)) (hB : B < base) : plRow W' base v xs := by
  obtain ⟨A, c, hv, h⟩ := h
  refine ⟨A, c, hv, ?_⟩
  rcases h with h | ⟨g, arr, hb, hA, hc, h⟩
  · exact .inl h
  · exact .inr ⟨g, arr, hb, hA, blk_grown hc hg (by intro e; injection e with e; omega), h⟩
theorem plRow.put {W : World} {base : Nat} {v : Value} {xs : List Int} (h : plRow W base v xs) {b j : Nat} {u : Value} {t : TypeId} {cs : Array Value} (hb : W.heap[b]? = some (.cells cs t (0, 0))) (ht : 3 ≠ t) : plRow (W.setCell ⟨b, j, none⟩ u) base v xs := by
  obtain ⟨A, c, hv, h⟩ := h
  refine ⟨A, c, hv, ?_⟩
  rcases h with h | ⟨g, arr, hg, hA, hc, h⟩
  · exact .inl h
  · exact .inr ⟨g, arr, hg, hA, (Below.heap_setCell _ _ _ _ (blk_ne hc hb ht)).trans hc, h⟩
def plI (n : Int) : Value := .int .i64 n
/-- The blocks of a call of 'of'. -/
structure plFr (W : World) (B : Nat) (fv : Value) (o : plF) (W' : World) : Prop where
  g : W.grownBy W' (some B)
  n : W.heap.size + 4 ≤ W'.heap.size
  p : W'.heap[W.heap.size]? = some (.cells #[fv, .map (some B)] 51 (0, 0))
  r : W'.heap[W.heap.size + 1]? = some (.cells #[.int .i64 0, .int .i64 0, .int .i64 0] 55 (0, 0))
  o : W'.heap[W.heap.size + 3]? = some (.cells #[.int .i64 o.1, .int .i64 o.2.1, .int .i64 o.2.2] 55 (0, 0))
theorem plFr.kept {W W1 W2 : World} {B : Nat} {fv : Value} {o : plF} (h : plFr W B fv o W1) (hB : B < W.heap.size) (hg : W1.grownBy W2 (some B)) : plFr W B fv o W2 :=
  ⟨h.g.trans hg, Nat.le_trans h.n hg.size, blk_grown h.p hg (by intro e; injection e with e; omega), blk_grown h.r hg (by intro e; injection e with e; omega), blk_grown h.o hg (by intro e; injection e with e; omega)⟩
theorem plFr.put {W W1 : World} {B : Nat} {fv : Value} {o : plF} (h : plFr W B fv o W1) (j : Nat) (x : Int) (o' : plF) (he : (#[.int .i64 o.1, .int .i64 o.2.1, .int .i64 o.2.2] : Array Value).setIfInBounds j (.int .i64 x) = #[.int .i64 o'.1, .int .i64 o'.2.1, .int .i64 o'.2.2]) : plFr W B fv o' (W1.setCell ⟨W.heap.size + 3, j, none⟩ (.int .i64 x)) := by
  have hn := h.n
  refine ⟨?_, by simpa [World.setCell] using hn, ?_, ?_, blk_put h.o j _ he⟩
  · exact ⟨h.g.os, h.g.tape, h.g.output, by simpa [World.setCell] using h.g.size, fun k hk hne => (Below.heap_setCell _ _ _ _ (by show k ≠ W.heap.size + 3; omega)).trans (h.g.block k hk hne)⟩
  · exact (Below.heap_setCell _ _ _ _ (by show W.heap.size ≠ W.heap.size + 3; omega)).trans h.p
  · exact (Below.heap_setCell _ _ _ _ (by show W.heap.size + 1 ≠ W.heap.size + 3; omega)).trans h.r
theorem plFr.facts {W W1 : World} {B : Nat} {fv : Value} {o : plF} (h : plFr W B fv o W1) : W1.cell? ⟨W.heap.size, 0, none⟩ = some fv ∧ W1.cell? ⟨W.heap.size, 1, none⟩ = some (.map (some B)) ∧
    W1.cell? ⟨W.heap.size + 1 + 1 + 1, 0, none⟩ = some (.int .i64 o.1) ∧ W1.cell? ⟨W.heap.size + 1 + 1 + 1, 1, none⟩ = some (.int .i64 o.2.1) ∧ W1.cell? ⟨W.heap.size + 1 + 1 + 1, 2, none⟩ = some (.int .i64 o.2.2) ∧
    W1.frozen? ⟨W.heap.size + 1 + 1 + 1, 0, none⟩ = false ∧ W1.frozen? ⟨W.heap.size + 1 + 1 + 1, 1, none⟩ = false ∧ W1.frozen? ⟨W.heap.size + 1 + 1 + 1, 2, none⟩ = false :=
  ⟨by rw [blk_cell h.p]; rfl, by rw [blk_cell h.p]; rfl, by rw [show W.heap.size + 1 + 1 + 1 = W.heap.size + 3 from rfl, blk_cell h.o]; rfl, by rw [show W.heap.size + 1 + 1 + 1 = W.heap.size + 3 from rfl, blk_cell h.o]; rfl, by rw [show W.heap.size + 1 + 1 + 1 = W.heap.size + 3 from rfl, blk_cell h.o]; rfl, blk_frozen h.o 0, blk_frozen h.o 1, blk_frozen h.o 2⟩
theorem plFr.res {W W1 : World} {B : Nat} {fv : Value} {o : plF} (h : plFr W B fv o W1) : W1.cell? ⟨W.heap.size + 1, 0, none⟩ = some (.int .i64 0) ∧ W1.cell? ⟨W.heap.size + 1, 1, none⟩ = some (.int .i64 0) ∧ W1.cell? ⟨W.heap.size + 1, 2, none⟩ = some (.int .i64 0) ∧
    W1.frozen? ⟨W.heap.size + 1, 0, none⟩ = false ∧ W1.frozen? ⟨W.heap.size + 1, 1, none⟩ = false ∧ W1.frozen? ⟨W.heap.size + 1, 2, none⟩ = false :=
  ⟨by rw [blk_cell h.r]; rfl, by rw [blk_cell h.r]; rfl, by rw [blk_cell h.r]; rfl, blk_frozen h.r 0, blk_frozen h.r 1, blk_frozen h.r 2⟩
theorem plFr.start (W : World) (B : Nat) (fv : Value) : plFr W B fv (-1, -1, 0) ((((W.alloc (.cells #[fv, .map (some B)] 51)).alloc (.cells #[.int .i64 0, .int .i64 0, .int .i64 0] 55)).alloc (.cells #[.int .i64 0, .int .i64 0, .int .i64 0] 55)).alloc (.cells #[.int .i64 (-1), .int .i64 (-1), .int .i64 0] 55)) := by
  have n1 : (W.alloc (.cells #[fv, .map (some B)] 51)).heap.size = W.heap.size + 1 := by simp
  have n2 : ((W.alloc (.cells #[fv, .map (some B)] 51)).alloc (.cells #[.int .i64 0, .int .i64 0, .int .i64 0] 55)).heap.size = W.heap.size + 2 := by simp
  have n3 : (((W.alloc (.cells #[fv, .map (some B)] 51)).alloc (.cells #[.int .i64 0, .int .i64 0, .int .i64 0] 55)).alloc (.cells #[.int .i64 0, .int .i64 0, .int .i64 0] 55)).heap.size = W.heap.size + 3 := by simp
  have h1 := blk_new W (.cells #[fv, .map (some B)] 51)
  have h2 := blk_new (W.alloc (.cells #[fv, .map (some B)] 51)) (.cells #[.int .i64 0, .int .i64 0, .int .i64 0] 55)
  have h4 := blk_new (((W.alloc (.cells #[fv, .map (some B)] 51)).alloc (.cells #[.int .i64 0, .int .i64 0, .int .i64 0] 55)).alloc (.cells #[.int .i64 0, .int .i64 0, .int .i64 0] 55)) (.cells #[.int .i64 (-1), .int .i64 (-1), .int .i64 0] 55)
  rw [n1] at h2
  rw [n3] at h4
  refine ⟨plGrown (below_alloc (below_alloc (below_alloc (below_alloc (Below.refl _ _) _) _) _) _) _, by simp, ?_, ?_, h4⟩
  · exact (Below.heap_alloc _ _ _ (by omega)).trans ((Below.heap_alloc _ _ _ (by omega)).trans ((Below.heap_alloc _ _ _ (by omega)).trans h1))
  · exact (Below.heap_alloc _ _ _ (by omega)).trans ((Below.heap_alloc _ _ _ (by omega)).trans h2)
theorem plMem.set {W : World} {B b j : Nat} {M : plM} (h : plMem W B M) (hb : B ≠ b) (u : Value) : plMem (W.setCell ⟨b, j, none⟩ u) B M := World.ownsMap.setCell h hb u
theorem plDrop (ms : List Int) (j : Nat) (h : j < ms.length) : ms.drop j = rd ms (j : Int) :: ms.drop (j + 1) := by
  rw [List.drop_eq_getElem_cons h]
  unfold rd
  rw [Int.toNat_natCast, List.getD_eq_getElem?_getD, List.getElem?_eq_getElem h]; rfl
theorem plSet {W W1 : World} {row : Option Nat} (h : W.grownBy W1 row) {b j : Nat} (hb : W.heap.size ≤ b) (u : Value) : W.grownBy (W1.setCell ⟨b, j, none⟩ u) row :=
  ⟨h.os, h.tape, h.output, by simpa [World.setCell] using h.size, fun k hk hne => (Below.heap_setCell _ _ _ _ (by show k ≠ b; omega)).trans (h.block k hk hne)⟩
theorem plRow.lower {W : World} {b b' : Nat} {v : Value} {xs : List Int} (h : plRow W b v xs) (hb : b' ≤ b) : plRow W b' v xs := by
  obtain ⟨A, c, hv, h⟩ := h
  refine ⟨A, c, hv, ?_⟩
  rcases h with h | ⟨g, arr, h1, h2⟩
  · exact .inl h
  · exact .inr ⟨g, arr, Nat.le_trans hb h1, h2⟩
theorem plRow.form {W : World} {b : Nat} {v : Value} {xs : List Int} (h : plRow W b v xs) : ∃ A c, v = .slice A xs.length c := ⟨h.choose, h.choose_spec.choose, h.choose_spec.choose_spec.1⟩
theorem plOp_of {P : Program} {ops : Array Oper} {Q : Exit → Act → World → Prop} {i : Nat} {K : Act → World → Prop} {a : Act} {w : World} {o : Oper} (ho : ops[i]? = some o) (h : ∀ (K' : Act → World → Prop), (∀ a' w', K a' w' → K' a' w') → (if Region.wanted o (yielded ops a.tmps) then o.wp P a w K' Q ∨ (o.asks P a w ∧ LetsOut Q) else K' (a.put o.dst undef) w)) : wpOp P ops Q i K a w := by
  unfold Go.wpOp
  rw [ho]
  exact h K (fun _ _ h => h)
/-- What holds in the drawn region that asks for the next fate, where some of its operations are done. -/
structure plRS (wr : World) (B : Nat) (FV : Value) (s t : ByteArray) (m : Int) (n : plF) (M2 M3 : plM) (L : Nat → Bool) (v33 v34 v35 v36 v37 v10 : Value) (W' : World) : Prop where
  g : wr.grownBy W' (some B)
  mem : plMem W' B (if L 4 = true then M3 else M2)
  h0 : L 0 = true → v33 = .agg #[FV, .map (some B)]
  h1 : L 1 = true → v34 = .string s
  h2 : L 2 = true → v35 = .int .i64 m
  h3 : L 3 = true → v36 = .string t
  h4 : L 4 = true → v37 = .agg #[.int .i64 n.1, .int .i64 n.2.1, .int .i64 n.2.2]
  h5 : L 5 = true → ∃ (b : Nat) (q : plF), v10 = .pointer (some ⟨b, 0, none⟩) ∧ wr.heap.size ≤ b ∧ W'.heap[b]? = some (.cells #[.int .i64 q.1, .int .i64 q.2.1, .int .i64 q.2.2] 55 (0, 0)) ∧ (L 6 = true → q = n)
  o6 : L 6 = true → L 4 = true ∧ L 5 = true
theorem plRS.below {wr W W' : World} {B : Nat} {FV : Value} {s t : ByteArray} {m : Int} {n : plF} {M2 M3 : plM} {L : Nat → Bool} {v33 v34 v35 v36 v37 v10 : Value} (H : plRS wr B FV s t m n M2 M3 L v33 v34 v35 v36 v37 v10 W) (hb : Below W.heap.size W W') : plRS wr B FV s t m n M2 M3 L v33 v34 v35 v36 v37 v10 W' :=
  ⟨H.g.trans (plGrown hb _), H.mem.below hb, H.h0, H.h1, H.h2, H.h3, H.h4, fun hl => by
    obtain ⟨b, q, e, x1, x2, x3⟩ := H.h5 hl
    exact ⟨b, q, e, x1, (hb.block b (blk_lt x2)).trans x2, x3⟩, H.o6⟩
/-- What holds in the drawn region that takes the next fate in, where some of its operations are done. -/
structure plR2 (W : World) (B : Nat) (FV : Value) (b : Nat) (ms : List Int) (vr : Value) (l o2 o3 n1 n2 n3 y z : Int) (M3 : plM) (L : Nat → Bool) (v56 v57 v58 v59 v60 v61 v62 v63 v64 v65 v66 v67 v68 : Value) (W' : World) : Prop where
  fr : plFr W B FV (l, (if L 12 = true then mx o2 y else o2), (if L 14 = true then z else o3)) W'
  m : plMem W' B M3
  r : plRow W' W.heap.size vr ms
  bx : W'.heap[b]? = some (.cells #[.int .i64 n1, .int .i64 n2, .int .i64 n3] 55 (0, 0))
  h0 : L 0 = true → v56 = .pointer (some ⟨W.heap.size + 1 + 1 + 1, 1, none⟩)
  h1 : L 1 = true → v57 = .int .i64 o2
  h2 : L 2 = true → v58 = .pointer (some ⟨b, 1, none⟩)
  h3 : L 3 = true → v59 = .int .i64 n2
  h4 : L 4 = true → v60 = .int .i64 y
  h5 : L 5 = true → v61 = .int .i64 (mx o2 y)
  h6 : L 6 = true → v62 = .pointer (some ⟨W.heap.size + 1 + 1 + 1, 2, none⟩)
  h7 : L 7 = true → v63 = .int .i64 o3
  h8 : L 8 = true → v64 = .pointer (some ⟨b, 2, none⟩)
  h9 : L 9 = true → v65 = .int .i64 n3
  h10 : L 10 = true → v66 = .int .i64 z
  h11 : L 11 = true → v67 = .pointer (some ⟨W.heap.size + 1 + 1 + 1, 1, none⟩)
  h13 : L 13 = true → v68 = .pointer (some ⟨W.heap.size + 1 + 1 + 1, 2, none⟩)
  o12 : L 12 = true → L 1 = true
  o14 : L 14 = true → L 7 = true
/-- What the walk holds of the closure that tells an end. -/
structure plEnd (E : ByteArray → Option Bool) (F : Nat) (caps : Array Value) (Env : World → Prop) : Prop where
  call : ∀ (W : World) (s : ByteArray) (b : Bool), Env W → E s = some b → Calls Tryd.prog F (#[.string s] ++ caps) W fun e W' => e = .returned (.bool b) ∧ Below W.heap.size W W'
  kept : ∀ (W W' : World) (B : Nat) (M : plM), Env W → plMem W B M → W.grownBy W' (some B) → Env W'
set_option maxHeartbeats 8000000 in
set_option maxRecDepth 100000 in
theorem plOf_walkG (Bg : Nat) (E : ByteArray → Option Bool) (Env : World → Prop) (hE : plEnd E 67 #[.pointer (some ⟨Bg, 0, none⟩)] Env) (k B : Nat) (d : Nat) :
    ∀ (M M' : plM) (s : ByteArray) (f : plF) (W : World), plOf E k d M s = some (f, M') → plMem W B M → Env W →
    Calls Tryd.prog 48 #[.agg #[.func (.func 67) #[] #[.pointer (some ⟨Bg, 0, none⟩)], .map (some B)], .string s] W fun e W' => e = .returned (plV f) ∧ plMem W' B M' ∧ W.grownBy W' (some B) := by
  induction d with
  | zero => intro M M' s f W h; cases h
  | succ d ih =>
    intro M M' s f W h hM hEnv
    simp only [plOf] at h
    by_cases hs : s.size ≤ 1000
    case neg => rw [if_neg hs] at h; cases h
    rw [if_pos hs] at h
    cases hf : plFnd M s with
    | some f0 =>
      rw [hf] at h
      simp only [Option.some.injEq, Prod.mk.injEq] at h
      obtain ⟨rfl, rfl⟩ := h
      have HM := Aside0.mk hM
      have hB1 : Below W.heap.size W (W.alloc (.cells #[.func (.func 67) #[] #[.pointer (some ⟨Bg, 0, none⟩)], .map (some B)] 51)) := below_alloc (Below.refl _ _) _
      have hB2 : Below W.heap.size W ((W.alloc (.cells #[.func (.func 67) #[] #[.pointer (some ⟨Bg, 0, none⟩)], .map (some B)] 51)).alloc (.cells #[.int .i64 0, .int .i64 0, .int .i64 0] 55)) := below_alloc hB1 _
      have q1 := (hM.below hB2).look s hs
      rw [hf] at q1
      simp only [Option.getD_some, Option.isSome_some, plV] at q1
      have HB2 := Aside0.mk hB2
      clear hM hf hB1 hB2
      go_enter Tryd.func48, Tryd.ntmps48
      go_wp2
      exact bodyPost_ret (v := plV f0) (by simp [results, Tryd.results48, go_sem, plV]) rfl ⟨rfl, HM.out.below (below_alloc (below_alloc (below_alloc (Below.refl _ _) _) _) _), plGrown (below_alloc (below_alloc (below_alloc (Below.refl _ _) _) _) _) _⟩
    | none =>
      rw [hf] at h
      obtain ⟨b, hb, h⟩ := Option.bind_eq_some_iff.mp h
      obtain ⟨ms, hms, h⟩ := Option.bind_eq_some_iff.mp h
      by_cases hlen : ms.length ≤ 1000
      case neg => rw [if_neg hlen] at h; cases h
      rw [if_pos hlen] at h
      obtain ⟨⟨out, M1⟩, hr, h⟩ := Option.bind_eq_some_iff.mp h
      dsimp only at h
      by_cases hl : M1.length < 1000000000
      case neg => rw [if_neg hl] at h; cases h
      rw [if_pos hl] at h
      simp only [Option.some.injEq, Prod.mk.injEq] at h
      obtain ⟨rfl, rfl⟩ := h
      have HM := Aside0.mk hM
      have hB1 : Below W.heap.size W (W.alloc (.cells #[.func (.func 67) #[] #[.pointer (some ⟨Bg, 0, none⟩)], .map (some B)] 51)) := below_alloc (Below.refl _ _) _
      have hB2 : Below W.heap.size W ((W.alloc (.cells #[.func (.func 67) #[] #[.pointer (some ⟨Bg, 0, none⟩)], .map (some B)] 51)).alloc (.cells #[.int .i64 0, .int .i64 0, .int .i64 0] 55)) := below_alloc hB1 _
      have q1 := (hM.below hB2).look s hs
      rw [hf] at q1
      simp only [Option.getD_none, Option.isSome_none, plV] at q1
      have HB2 := Aside0.mk hB2
      have HE := Aside0.mk hb
      have HMS := Aside0.mk hms
      have HLEN := Aside0.mk hlen
      have HR := Aside0.mk hr
      have HL := Aside0.mk hl
      have HS := Aside0.mk hs
      have HEnv := Aside0.mk hEnv
      have IH := Aside0.mk ih
      clear hM hf hB1 hB2 hb hms hlen hr hl hs hEnv ih
      go_enter Tryd.func48, Tryd.ntmps48
      have HM4 := Aside0.mk (HM.out.below (below_alloc (below_alloc (below_alloc (below_alloc (Below.refl W.heap.size W) (.cells #[.func (.func 67) #[] #[.pointer (some ⟨Bg, 0, none⟩)], .map (some B)] 51)) (.cells #[.int .i64 0, .int .i64 0, .int .i64 0] 55)) (.cells #[.int .i64 0, .int .i64 0, .int .i64 0] 55)) (.cells #[.int .i64 (-1), .int .i64 (-1), .int .i64 0] 55)))
      have CALL_ := Aside0.mk (hE.call _ s b (hE.kept _ _ B M HEnv.out HM.out (plGrown (below_alloc (below_alloc (below_alloc (below_alloc (Below.refl W.heap.size W) (.cells #[.func (.func 67) #[] #[.pointer (some ⟨Bg, 0, none⟩)], .map (some B)] 51)) (.cells #[.int .i64 0, .int .i64 0, .int .i64 0] 55)) (.cells #[.int .i64 0, .int .i64 0, .int .i64 0] 55)) (.cells #[.int .i64 (-1), .int .i64 (-1), .int .i64 0] 55)) (some B))) HE.out)
      cases b with
      | false =>
        go_wp2_with (first | (go_at_call 67; (refine CALL_.out.mono ?_); rintro e w5 ⟨rfl, hb5⟩; have fr5 := (plFr.start W B (.func (.func 67) #[] #[.pointer (some ⟨Bg, 0, none⟩)])).kept HM.out.lt (plGrown hb5 (some B)); have HF5 := Aside0.mk fr5; have HM5 := Aside0.mk (HM4.out.below hb5); clear hb5 fr5) | (go_at_call 62; (refine (impl_hops.calls k s ms _ HMS.out).mono ?_); rintro e w6 ⟨v6, rfl, hR, hb6⟩; have HF6 := Aside0.mk (HF5.out.kept HM.out.lt (plGrown hb6 (some B))); have HM6 := Aside0.mk (HM5.out.below hb6); have hrow := (plRow.ofR hR).lower (show W.heap.size ≤ w5.heap.size by have := HF5.out.n; omega); obtain ⟨A6, c6, rfl⟩ := hrow.form; have HRW6 := Aside0.mk hrow; have HEnv6 := Aside0.mk (hE.kept _ _ B M HEnv.out HM.out HF6.out.g); clear hrow hR hb6))
        go_loopg [29] ms.length (fun kq v29 w' => ∃ (i : Int) (o : plF) (M2 : plM), v29 = .int .i64 i ∧ Aside0 (i = (ms.length : Int) - (kq : Int)) ∧ Aside0 (kq ≤ ms.length) ∧ Aside0 (plRnd (plOf E k d) s (ms.drop (ms.length - kq)) o M2 = some (out, M1)) ∧ Aside0 (plFr W B (.func (.func 67) #[] #[.pointer (some ⟨Bg, 0, none⟩)]) o w') ∧ Aside0 (plMem w' B M2) ∧ Aside0 (Env w') ∧ Aside0 (plRow w' W.heap.size (.slice A6 ms.length c6) ms))
        case atStart => exact ⟨0, (-1, -1, 0), M, rfl, ⟨by omega⟩, ⟨Nat.le_refl _⟩, ⟨by rw [Nat.sub_self]; exact HR.out⟩, HF6, HM6, HEnv6, HRW6⟩
        case round =>
          obtain ⟨i, o, M2, rfl, HI, HK, HRN, HFo, HMo, HEo, HRo⟩ := hrel
          cases gk with
          | zero =>
            have c1 : decide (i < (ms.length : Int)) = false := decide_eq_false (by have := HI.out; omega)
            have hro : plRnd (plOf E k d) s (ms.drop (ms.length - 0)) o M2 = some (out, M1) := HRN.out
            rw [Nat.sub_zero, List.drop_length] at hro
            simp only [plRnd, Option.some.injEq, Prod.mk.injEq] at hro
            obtain ⟨rfl, rfl⟩ := hro
            obtain ⟨p0, p1, o0, o1, o2, f0, f1, f2⟩ := HFo.out.facts
            obtain ⟨W9, hput, hm9, hg9⟩ := HMo.out.put s HS.out o HL.out
            have HF9 := Aside0.mk (HFo.out.kept HM.out.lt hg9)
            have HM9 := Aside0.mk hm9
            obtain ⟨_, _, n0, n1, n2, _, _, _⟩ := HF9.out.facts
            obtain ⟨r0, r1, r2, g0, g1, g2⟩ := HF9.out.res
            simp only [plV] at hput
            clear hm9 hg9
            go_wp2
            have hBW := HM.out.lt
            exact bodyPost_ret (v := plV o) (by simp [results, Tryd.results48, go_sem, plV, r0, r1, r2]) rfl ⟨rfl, ((HM9.out.set (by omega) _).set (by omega) _).set (by omega) _, plSet (plSet (plSet HF9.out.g (by omega) _) (by omega) _) (by omega) _⟩
          | succ k1 =>
            have c1 : decide (i < (ms.length : Int)) = true := decide_eq_true (by have := HI.out; omega)
            have hi0 : 0 ≤ i := by have := HI.out; have := HK.out; omega
            have hi1 : i < (ms.length : Int) := by have := HI.out; omega
            have hrn := HRN.out
            rw [plDrop ms _ (show ms.length - (k1 + 1) < ms.length by have := HK.out; omega), show (((ms.length - (k1 + 1) : Nat) : Nat) : Int) = i by have := HI.out; have := HK.out; omega] at hrn
            simp only [plRnd] at hrn
            obtain ⟨t, ht, hrn⟩ := Option.bind_eq_some_iff.mp hrn
            obtain ⟨⟨n, M3⟩, hn, hrn⟩ := Option.bind_eq_some_iff.mp hrn
            dsimp only at hrn
            rw [show ms.length - (k1 + 1) + 1 = ms.length - k1 by have := HK.out; omega] at hrn
            obtain ⟨m, hm⟩ : ∃ m : Int, rd ms i = m := ⟨_, rfl⟩
            rw [hm] at ht
            obtain ⟨g, arr, hgb, hA, hcs, harr⟩ : ∃ (g : Nat) (arr : Array Value), W.heap.size ≤ g ∧ A6 = some ⟨g, 0, none⟩ ∧ wr.heap[g]? = some (.cells arr 3 (0, 0)) ∧ ∀ j, j < ms.length → arr[j]? = some (.int .i64 (rd ms (j : Int))) := by
              obtain ⟨A, c, hv, h⟩ := HRo.out
              rcases h with h | h
              · rw [h] at hi1; simp at hi1; omega
              · injection hv with e1 e2 e3; rw [e1]; exact h
            subst hA
            have hcell : wr.cell? ⟨g, i.toNat, none⟩ = some (.int .i64 m) := by
              rw [blk_cell hcs, harr i.toNat (by omega), show ((i.toNat : Nat) : Int) = i by omega, hm]
            have HT := Aside0.mk ht
            have HN := Aside0.mk hn
            have HRN2 := Aside0.mk hrn
            have HIB := Aside0.mk (show 0 ≤ i ∧ i < (ms.length : Int) from ⟨hi0, hi1⟩)
            obtain ⟨p0, p1, _, _, _, _, _, _⟩ := HFo.out.facts
            clear ht hn hrn hm hcs harr
            go_wp2
            have HBW := Aside0.mk HM.out.lt
            clear hgb
            refine region_inv (J := fun L a Wc => ∃ v33 v34 v35 v36 v37 v10 : Value, a = { tmps := #[Value.agg #[Value.func (Fn.func 67) #[] #[.pointer (some ⟨Bg, 0, none⟩)], Value.map (some B)], Value.string s, Value.pointer (some { block := W.heap.size, off := 0 }), undef, Value.pointer (some { block := W.heap.size + 1, off := 0 }), Value.pointer (some { block := W.heap.size + 1 + 1, off := 0 }), Value.bool false, Value.pointer (some { block := W.heap.size + 1 + 1 + 1, off := 0 }), undef, Value.int IntKind.i64 m, v10, Value.tuple #[Value.agg #[Value.int IntKind.i64 0, Value.int IntKind.i64 0, Value.int IntKind.i64 0], Value.bool false], Value.pointer (some { block := W.heap.size, off := 1 }), Value.map (some B), Value.string s, Value.tuple #[Value.agg #[Value.int IntKind.i64 0, Value.int IntKind.i64 0, Value.int IntKind.i64 0], Value.bool false], Value.agg #[Value.int IntKind.i64 0, Value.int IntKind.i64 0, Value.int IntKind.i64 0], Value.bool false, Value.bool false, undef, Value.agg #[Value.int IntKind.i64 (-1), Value.int IntKind.i64 (-1), Value.int IntKind.i64 0], Value.pointer (some { block := W.heap.size, off := 0 }), Value.func (Fn.func 67) #[] #[.pointer (some ⟨Bg, 0, none⟩)], Value.string s, Value.bool false, undef, Value.string s, Value.slice (some { block := g, off := 0 }) ms.length c6, Value.int IntKind.i64 (ms.length : Int), Value.int IntKind.i64 i, Value.bool true, Value.pointer (some { block := g, off := i.toNat }), Value.int IntKind.i64 m, v33, v34, v35, v36, v37, u38, u39, u40, u41, u42, u43, u44, u45, u46, u47, u48, u49, u50, u51, u52, u53, u54, u55, u56, u57, u58, u59, u60, u61, u62, u63, u64, u65, u66, u67, u68, u69, undef, undef, undef, undef, undef], defers := [] } ∧ plRS wr B (.func (.func 67) #[] #[.pointer (some ⟨Bg, 0, none⟩)]) s t m n M2 M3 L v33 v34 v35 v36 v37 v10 Wc) (by kernel_rfl) (by kernel_rfl) ?start ?step ?fin
            case start => exact ⟨_, _, _, _, _, _, rfl, ⟨plGrown (below_drew1 (Below.refl _ _)) _, by simpa using HMo.out.below (below_drew1 (Below.refl _ _)), nofun, nofun, nofun, nofun, nofun, nofun, nofun⟩⟩
            case step =>
              rintro L a Wc j o ho hL hp ⟨v33, v34, v35, v36, v37, v10, rfl, H⟩
              have hj : j < 7 := (Array.getElem?_eq_some_iff.1 ho).1
              rcases (show j = 0 ∨ j = 1 ∨ j = 2 ∨ j = 3 ∨ j = 4 ∨ j = 5 ∨ j = 6 by omega) with rfl | rfl | rfl | rfl | rfl | rfl | rfl
              all_goals (obtain rfl : _ = o := Option.some.inj (show some _ = some o from ho); simp [Region.binds] at hp; refine plOp_of rfl (fun K hK => ?_))
              · -- operation 0
                obtain ⟨p0, p1, _, _, _, _, _, _⟩ := (HFo.out.kept HBW.out H.g).facts
                go_simp
                refine Or.inl ?_
                have H1 := H
                refine hK _ _ ⟨_, v34, v35, v36, v37, v10, rfl, ⟨?_, ?_, ?_, ?_, ?_, ?_, ?_, ?_, ?_⟩⟩
                · exact H1.g
                · exact by simpa using H1.mem
                · exact fun _ => rfl
                · exact fun hl => H1.h1 (by simpa using hl)
                · exact fun hl => H1.h2 (by simpa using hl)
                · exact fun hl => H1.h3 (by simpa using hl)
                · exact fun hl => H1.h4 (by simpa using hl)
                · exact fun hl => by obtain ⟨b, q, e, x1, x2, x3⟩ := H1.h5 (by simpa using hl); exact ⟨b, q, e, x1, x2, fun h6 => x3 (by simpa using h6)⟩
                · exact fun hl => by have := H1.o6 (by simpa using hl); simp [this]
              · -- operation 1
                go_simp
                refine Or.inl ?_
                have H1 := H
                refine hK _ _ ⟨v33, _, v35, v36, v37, v10, rfl, ⟨?_, ?_, ?_, ?_, ?_, ?_, ?_, ?_, ?_⟩⟩
                · exact H1.g
                · exact by simpa using H1.mem
                · exact fun hl => H1.h0 (by simpa using hl)
                · exact fun _ => rfl
                · exact fun hl => H1.h2 (by simpa using hl)
                · exact fun hl => H1.h3 (by simpa using hl)
                · exact fun hl => H1.h4 (by simpa using hl)
                · exact fun hl => by obtain ⟨b, q, e, x1, x2, x3⟩ := H1.h5 (by simpa using hl); exact ⟨b, q, e, x1, x2, fun h6 => x3 (by simpa using h6)⟩
                · exact fun hl => by have := H1.o6 (by simpa using hl); simp [this]
              · -- operation 2
                go_simp
                refine Or.inl ?_
                have H1 := H
                refine hK _ _ ⟨v33, v34, _, v36, v37, v10, rfl, ⟨?_, ?_, ?_, ?_, ?_, ?_, ?_, ?_, ?_⟩⟩
                · exact H1.g
                · exact by simpa using H1.mem
                · exact fun hl => H1.h0 (by simpa using hl)
                · exact fun hl => H1.h1 (by simpa using hl)
                · exact fun _ => rfl
                · exact fun hl => H1.h3 (by simpa using hl)
                · exact fun hl => H1.h4 (by simpa using hl)
                · exact fun hl => by obtain ⟨b, q, e, x1, x2, x3⟩ := H1.h5 (by simpa using hl); exact ⟨b, q, e, x1, x2, fun h6 => x3 (by simpa using h6)⟩
                · exact fun hl => by have := H1.o6 (by simpa using hl); simp [this]
              · -- operation 3
                have y1 : L 1 = true := by simp [hp]
                have y2 : L 2 = true := by simp [hp]
                obtain rfl := H.h1 y1
                obtain rfl := H.h2 y2
                go_simp
                refine Or.inl ?_
                refine (impl_hopped.calls s m t _ HT.out).mono ?_
                rintro e w' ⟨rfl, hbw⟩
                have H1 := H.below hbw
                refine hK _ _ ⟨v33, _, _, _, v37, v10, rfl, ⟨?_, ?_, ?_, ?_, ?_, ?_, ?_, ?_, ?_⟩⟩
                · exact H1.g
                · exact by simpa using H1.mem
                · exact fun hl => H1.h0 (by simpa using hl)
                · exact fun hl => H1.h1 (by simpa using hl)
                · exact fun hl => H1.h2 (by simpa using hl)
                · exact fun _ => rfl
                · exact fun hl => H1.h4 (by simpa using hl)
                · exact fun hl => by obtain ⟨b, q, e, x1, x2, x3⟩ := H1.h5 (by simpa using hl); exact ⟨b, q, e, x1, x2, fun h6 => x3 (by simpa using h6)⟩
                · exact fun hl => by have := H1.o6 (by simpa using hl); simp [this]
              · -- operation 4
                have y0 : L 0 = true := by simp [hp]
                have y3 : L 3 = true := by simp [hp]
                obtain rfl := H.h0 y0
                obtain rfl := H.h3 y3
                have hm := H.mem
                rw [if_neg (by simp [hL])] at hm
                go_simp
                refine Or.inl ?_
                refine (IH.out M2 M3 t n Wc HN.out hm (hE.kept _ _ B M2 HEo.out HMo.out H.g)).mono ?_
                rintro e w' ⟨rfl, hm3, hg3⟩
                have H1 := H
                refine hK _ _ ⟨_, v34, v35, _, _, v10, rfl, ⟨?_, ?_, ?_, ?_, ?_, ?_, ?_, ?_, ?_⟩⟩
                · exact H1.g.trans hg3
                · exact by simpa using hm3
                · exact fun hl => H1.h0 (by simpa using hl)
                · exact fun hl => H1.h1 (by simpa using hl)
                · exact fun hl => H1.h2 (by simpa using hl)
                · exact fun hl => H1.h3 (by simpa using hl)
                · exact fun _ => rfl
                · exact fun hl => by obtain ⟨b, q, e, x1, x2, x3⟩ := H1.h5 (by simpa using hl); exact ⟨b, q, e, x1, blk_grown x2 hg3 (by intro e; injection e with e; have := HBW.out; have := HFo.out.n; omega), fun h6 => x3 (by simpa using h6)⟩
                · exact fun hl => by have := H1.o6 (by simpa using hl); simp [this]
              · -- operation 5
                go_simp
                refine Or.inl ?_
                have H1 := H.below (below_alloc (Below.refl _ _) (Obj.cells #[.int .i64 0, .int .i64 0, .int .i64 0] 55))
                refine hK _ _ ⟨v33, v34, v35, v36, v37, _, rfl, ⟨?_, ?_, ?_, ?_, ?_, ?_, ?_, ?_, ?_⟩⟩
                · exact H1.g
                · exact by simpa using H1.mem
                · exact fun hl => H1.h0 (by simpa using hl)
                · exact fun hl => H1.h1 (by simpa using hl)
                · exact fun hl => H1.h2 (by simpa using hl)
                · exact fun hl => H1.h3 (by simpa using hl)
                · exact fun hl => H1.h4 (by simpa using hl)
                · exact fun _ => ⟨Wc.heap.size, (0, 0, 0), rfl, H.g.size, blk_new Wc _, fun h6 => absurd (H.o6 (by simpa using h6)).2 (by simp [hL])⟩
                · exact fun hl => by have := H1.o6 (by simpa using hl); simp [this]
              · -- operation 6
                have y4 : L 4 = true := by simp [hp]
                have y5 : L 5 = true := by simp [hp]
                obtain rfl := H.h4 y4
                obtain ⟨b, q, rfl, x1, x2, x3⟩ := H.h5 y5
                have d0 : Wc.cell? ⟨b, 0, none⟩ = some (.int .i64 q.1) := by rw [blk_cell x2]; rfl
                have d1 : Wc.cell? ⟨b, 1, none⟩ = some (.int .i64 q.2.1) := by rw [blk_cell x2]; rfl
                have d2 : Wc.cell? ⟨b, 2, none⟩ = some (.int .i64 q.2.2) := by rw [blk_cell x2]; rfl
                have g0 := blk_frozen x2 0
                have g1 := blk_frozen x2 1
                have g2 := blk_frozen x2 2
                have hBb : B ≠ b := by have := HBW.out; have := HFo.out.n; omega
                go_simp
                refine Or.inl ?_
                have H1 := H
                refine hK _ _ ⟨v33, v34, v35, v36, _, _, rfl, ⟨?_, ?_, ?_, ?_, ?_, ?_, ?_, ?_, ?_⟩⟩
                · exact plSet (plSet (plSet H1.g x1 _) x1 _) x1 _
                · exact by have := H1.mem; simpa using ((this.set hBb _).set hBb _).set hBb _
                · exact fun hl => H1.h0 (by simpa using hl)
                · exact fun hl => H1.h1 (by simpa using hl)
                · exact fun hl => H1.h2 (by simpa using hl)
                · exact fun hl => H1.h3 (by simpa using hl)
                · exact fun _ => rfl
                · exact fun _ => ⟨b, n, rfl, x1, blk_put (blk_put (blk_put x2 0 _ rfl) 1 _ rfl) 2 _ rfl, fun _ => rfl⟩
                · exact fun _ => by simp [hp]
            case fin =>
              rintro L a Wc hall ⟨v33, v34, v35, v36, v37, v10, rfl, H⟩
              obtain ⟨b, q, rfl, x1, x2, x3⟩ := H.h5 (hall 5 (by decide))
              obtain rfl := x3 (hall 6 (by decide))
              obtain rfl := H.h4 (hall 4 (by decide))
              have hm3 := H.mem
              rw [if_pos (hall 4 (by decide))] at hm3
              have hg3 := H.g
              clear H hall x3
              obtain ⟨n1, n2, n3⟩ := q
              obtain ⟨o1, o2, o3⟩ := o
              have HFc := Aside0.mk (HFo.out.kept HBW.out hg3)
              have HEc := Aside0.mk (hE.kept _ _ B M2 HEo.out HMo.out hg3)
              have HRc := Aside0.mk (HRo.out.kept hg3 HBW.out)
              have HMc := Aside0.mk hm3
              have HX := Aside0.mk x2
              have HX1 := Aside0.mk (show W.heap.size + 4 ≤ b by have := HFo.out.n; omega)
              have cfs := HFc.out.facts
              dsimp only at cfs
              obtain ⟨_, _, c0, c1', c2, f0, f1, f2⟩ := cfs
              have d0 : Wc.cell? ⟨b, 0, none⟩ = some (.int .i64 n1) := by rw [blk_cell x2]; rfl
              have d1 : Wc.cell? ⟨b, 1, none⟩ = some (.int .i64 n2) := by rw [blk_cell x2]; rfl
              have d2 : Wc.cell? ⟨b, 2, none⟩ = some (.int .i64 n3) := by rw [blk_cell x2]; rfl
              have wi : wrap64 (i + 1) = i + 1 := by have := HIB.out; have := HLEN.out; unfold wrap64; omega
              have wi' : IntKind.i64.wrap (i + 1) = i + 1 := (i64_w _).trans wi
              have hrn2 := HRN2.out
              dsimp only at hrn2
              clear x1 x2 hg3 hm3
              by_cases hz : n3 = 0
              · subst hz
                rw [if_pos rfl] at hrn2
                have HRN3 := Aside0.mk hrn2
                clear hrn2
                go_wp2
                go_roundg k1
                case measure => omega
                case rel => exact ⟨i + 1, (o1, o2, o3), M3, rfl, ⟨by have := HI.out; omega⟩, ⟨by have := HK.out; omega⟩, HRN3, HFc, HMc, HEc, HRc⟩
              · rw [if_neg hz] at hrn2
                have hz1 : (n3 == 0) = false := beq_eq_false_iff_ne.2 hz
                have HRN3 := Aside0.mk hrn2
                clear hrn2 hz
                obtain ⟨x, hx⟩ : ∃ x : Int, wrap64 (n1 + 1) = x := ⟨_, rfl⟩
                have hx' : IntKind.i64.wrap (n1 + 1) = x := (i64_w _).trans hx
                by_cases e1 : o1 < 0
                · have e1' : decide (o1 < 0) = true := decide_eq_true e1
                  have E1 := Aside0.mk e1
                  clear e1
                  go_wp2
                  have e1 := E1.out
                  have FD_ := Aside0.mk (show plFr W B (.func (.func 67) #[] #[.pointer (some ⟨Bg, 0, none⟩)]) (x, o2, o3) (Wc.setCell ⟨W.heap.size + 1 + 1 + 1, 0, none⟩ (.int .i64 x)) from HFc.out.put 0 x (x, o2, o3) rfl)
                  have MD_ := Aside0.mk (show plMem (Wc.setCell ⟨W.heap.size + 1 + 1 + 1, 0, none⟩ (.int .i64 x)) B M3 from HMc.out.set (by have := HBW.out; omega) _)
                  have RD_ := Aside0.mk (show plRow (Wc.setCell ⟨W.heap.size + 1 + 1 + 1, 0, none⟩ (.int .i64 x)) W.heap.size (.slice (some ⟨g, 0, none⟩) ms.length c6) ms from HRc.out.put (b := W.heap.size + 3) HFc.out.o (by decide))
                  have BD_ := Aside0.mk (show (Wc.setCell ⟨W.heap.size + 1 + 1 + 1, 0, none⟩ (.int .i64 x)).heap[b]? = some (.cells #[.int .i64 n1, .int .i64 n2, .int .i64 n3] 55 (0, 0)) from (Below.heap_setCell _ _ _ _ (by show b ≠ W.heap.size + 3; have := HX1.out; omega)).trans HX.out)
                  obtain ⟨y, hy⟩ : ∃ y : Int, wrap64 (n2 + 1) = y := ⟨_, rfl⟩
                  obtain ⟨z, hzz⟩ : ∃ z : Int, wrap64 (o3 + n3) = z := ⟨_, rfl⟩
                  have hy' : IntKind.i64.wrap (n2 + 1) = y := (i64_w _).trans hy
                  have hzz' : IntKind.i64.wrap (o3 + n3) = z := (i64_w _).trans hzz
                  have HUP := Aside0.mk (show plUpd (o1, o2, o3) (n1, n2, n3) = (x, mx o2 y, z) from by simp only [plUpd, hx, hy, hzz]; rw [if_pos (by omega)])
                  clear hx
                  refine region_inv (J := fun L a Wd => ∃ v56 v57 v58 v59 v60 v61 v62 v63 v64 v65 v66 v67 v68 : Value, a = { tmps := #[Value.agg #[Value.func (Fn.func 67) #[] #[.pointer (some ⟨Bg, 0, none⟩)], Value.map (some B)], Value.string s, Value.pointer (some { block := W.heap.size, off := 0 }), undef, Value.pointer (some { block := W.heap.size + 1, off := 0 }), Value.pointer (some { block := W.heap.size + 1 + 1, off := 0 }), Value.bool false, Value.pointer (some { block := W.heap.size + 1 + 1 + 1, off := 0 }), undef, Value.int IntKind.i64 m, Value.pointer (some { block := b, off := 0 }), Value.tuple #[Value.agg #[Value.int IntKind.i64 0, Value.int IntKind.i64 0, Value.int IntKind.i64 0], Value.bool false], Value.pointer (some { block := W.heap.size, off := 1 }), Value.map (some B), Value.string s, Value.tuple #[Value.agg #[Value.int IntKind.i64 0, Value.int IntKind.i64 0, Value.int IntKind.i64 0], Value.bool false], Value.agg #[Value.int IntKind.i64 0, Value.int IntKind.i64 0, Value.int IntKind.i64 0], Value.bool false, Value.bool false, undef, Value.agg #[Value.int IntKind.i64 (-1), Value.int IntKind.i64 (-1), Value.int IntKind.i64 0], Value.pointer (some { block := W.heap.size, off := 0 }), Value.func (Fn.func 67) #[] #[.pointer (some ⟨Bg, 0, none⟩)], Value.string s, Value.bool false, undef, Value.string s, Value.slice (some { block := g, off := 0 }) ms.length c6, Value.int IntKind.i64 (ms.length : Int), Value.int IntKind.i64 i, Value.bool true, Value.pointer (some { block := g, off := i.toNat }), Value.int IntKind.i64 m, v33, v34, v35, v36, Value.agg #[Value.int IntKind.i64 n1, Value.int IntKind.i64 n2, Value.int IntKind.i64 n3], Value.pointer (some { block := b, off := 2 }), Value.int IntKind.i64 n3, Value.bool false, Value.pointer (some { block := W.heap.size + 1 + 1 + 1, off := 0 }), Value.int IntKind.i64 o1, Value.bool true, Value.bool true, undef, undef, undef, undef, undef, undef, Value.bool true, Value.pointer (some { block := b, off := 0 }), Value.int IntKind.i64 n1, Value.int IntKind.i64 x, Value.pointer (some { block := W.heap.size + 1 + 1 + 1, off := 0 }), v56, v57, v58, v59, v60, v61, v62, v63, v64, v65, v66, v67, v68, u69, undef, undef, undef, undef, undef], defers := [] } ∧ plR2 W B (.func (.func 67) #[] #[.pointer (some ⟨Bg, 0, none⟩)]) b ms (.slice (some ⟨g, 0, none⟩) ms.length c6) x o2 o3 n1 n2 n3 y z M3 L v56 v57 v58 v59 v60 v61 v62 v63 v64 v65 v66 v67 v68 Wd) (by kernel_rfl) (by kernel_rfl) ?start2 ?step2 ?fin2
                  case start2 => exact ⟨_, _, _, _, _, _, _, _, _, _, _, _, _, rfl, ⟨by simpa using FD_.out.kept HBW.out (plGrown (below_drew1 (Below.refl _ _)) _), MD_.out.below (below_drew1 (Below.refl _ _)), RD_.out.kept (plGrown (below_drew1 (Below.refl _ _)) _) HBW.out, BD_.out, nofun, nofun, nofun, nofun, nofun, nofun, nofun, nofun, nofun, nofun, nofun, nofun, nofun, nofun, nofun⟩⟩
                  case step2 =>
                    rintro L a Wd j ob ho hL hp ⟨v56, v57, v58, v59, v60, v61, v62, v63, v64, v65, v66, v67, v68, rfl, H⟩
                    have hj : j < 15 := (Array.getElem?_eq_some_iff.1 ho).1
                    rcases (show j = 0 ∨ j = 1 ∨ j = 2 ∨ j = 3 ∨ j = 4 ∨ j = 5 ∨ j = 6 ∨ j = 7 ∨ j = 8 ∨ j = 9 ∨ j = 10 ∨ j = 11 ∨ j = 12 ∨ j = 13 ∨ j = 14 by omega) with rfl | rfl | rfl | rfl | rfl | rfl | rfl | rfl | rfl | rfl | rfl | rfl | rfl | rfl | rfl
                    all_goals (obtain rfl : _ = ob := Option.some.inj (show some _ = some ob from ho); simp [Region.binds] at hp; refine plOp_of rfl (fun K hK => ?_))
                    · -- operation 0
                      go_simp
                      refine Or.inl ?_
                      refine hK _ _ ⟨_, v57, v58, v59, v60, v61, v62, v63, v64, v65, v66, v67, v68, rfl, ⟨?_, ?_, ?_, ?_, ?_, ?_, ?_, ?_, ?_, ?_, ?_, ?_, ?_, ?_, ?_, ?_, ?_, ?_, ?_⟩⟩
                      · exact by simpa using H.fr
                      · exact H.m
                      · exact H.r
                      · exact H.bx
                      · exact fun _ => rfl
                      · exact fun hl => H.h1 (by simpa using hl)
                      · exact fun hl => H.h2 (by simpa using hl)
                      · exact fun hl => H.h3 (by simpa using hl)
                      · exact fun hl => H.h4 (by simpa using hl)
                      · exact fun hl => H.h5 (by simpa using hl)
                      · exact fun hl => H.h6 (by simpa using hl)
                      · exact fun hl => H.h7 (by simpa using hl)
                      · exact fun hl => H.h8 (by simpa using hl)
                      · exact fun hl => H.h9 (by simpa using hl)
                      · exact fun hl => H.h10 (by simpa using hl)
                      · exact fun hl => H.h11 (by simpa using hl)
                      · exact fun hl => H.h13 (by simpa using hl)
                      · exact fun hl => by have := H.o12 (by simpa using hl); simp [this]
                      · exact fun hl => by have := H.o14 (by simpa using hl); simp [this]
                    · -- operation 1
                      have y0 : L 0 = true := by simp [hp]
                      obtain rfl := H.h0 y0
                      have n12 : L 12 = false := by cases e : L 12 with | false => rfl | true => exact absurd (H.o12 e) (by simp [hL])
                      have cf := H.fr.facts
                      rw [n12] at cf
                      obtain ⟨_, _, _, c1, _, _, _, _⟩ := cf
                      simp only [Bool.false_eq_true, if_false] at c1
                      go_simp
                      refine Or.inl ?_
                      refine hK _ _ ⟨_, _, v58, v59, v60, v61, v62, v63, v64, v65, v66, v67, v68, rfl, ⟨?_, ?_, ?_, ?_, ?_, ?_, ?_, ?_, ?_, ?_, ?_, ?_, ?_, ?_, ?_, ?_, ?_, ?_, ?_⟩⟩
                      · exact by simpa using H.fr
                      · exact H.m
                      · exact H.r
                      · exact H.bx
                      · exact fun hl => H.h0 (by simpa using hl)
                      · exact fun _ => rfl
                      · exact fun hl => H.h2 (by simpa using hl)
                      · exact fun hl => H.h3 (by simpa using hl)
                      · exact fun hl => H.h4 (by simpa using hl)
                      · exact fun hl => H.h5 (by simpa using hl)
                      · exact fun hl => H.h6 (by simpa using hl)
                      · exact fun hl => H.h7 (by simpa using hl)
                      · exact fun hl => H.h8 (by simpa using hl)
                      · exact fun hl => H.h9 (by simpa using hl)
                      · exact fun hl => H.h10 (by simpa using hl)
                      · exact fun hl => H.h11 (by simpa using hl)
                      · exact fun hl => H.h13 (by simpa using hl)
                      · exact fun hl => by have := H.o12 (by simpa using hl); simp [this]
                      · exact fun hl => by have := H.o14 (by simpa using hl); simp [this]
                    · -- operation 2
                      go_simp
                      refine Or.inl ?_
                      refine hK _ _ ⟨v56, v57, _, v59, v60, v61, v62, v63, v64, v65, v66, v67, v68, rfl, ⟨?_, ?_, ?_, ?_, ?_, ?_, ?_, ?_, ?_, ?_, ?_, ?_, ?_, ?_, ?_, ?_, ?_, ?_, ?_⟩⟩
                      · exact by simpa using H.fr
                      · exact H.m
                      · exact H.r
                      · exact H.bx
                      · exact fun hl => H.h0 (by simpa using hl)
                      · exact fun hl => H.h1 (by simpa using hl)
                      · exact fun _ => rfl
                      · exact fun hl => H.h3 (by simpa using hl)
                      · exact fun hl => H.h4 (by simpa using hl)
                      · exact fun hl => H.h5 (by simpa using hl)
                      · exact fun hl => H.h6 (by simpa using hl)
                      · exact fun hl => H.h7 (by simpa using hl)
                      · exact fun hl => H.h8 (by simpa using hl)
                      · exact fun hl => H.h9 (by simpa using hl)
                      · exact fun hl => H.h10 (by simpa using hl)
                      · exact fun hl => H.h11 (by simpa using hl)
                      · exact fun hl => H.h13 (by simpa using hl)
                      · exact fun hl => by have := H.o12 (by simpa using hl); simp [this]
                      · exact fun hl => by have := H.o14 (by simpa using hl); simp [this]
                    · -- operation 3
                      have y2 : L 2 = true := by simp [hp]
                      obtain rfl := H.h2 y2
                      have c1 : Wd.cell? ⟨b, 1, none⟩ = some (.int .i64 n2) := by rw [blk_cell H.bx]; rfl
                      go_simp
                      refine Or.inl ?_
                      refine hK _ _ ⟨v56, v57, _, _, v60, v61, v62, v63, v64, v65, v66, v67, v68, rfl, ⟨?_, ?_, ?_, ?_, ?_, ?_, ?_, ?_, ?_, ?_, ?_, ?_, ?_, ?_, ?_, ?_, ?_, ?_, ?_⟩⟩
                      · exact by simpa using H.fr
                      · exact H.m
                      · exact H.r
                      · exact H.bx
                      · exact fun hl => H.h0 (by simpa using hl)
                      · exact fun hl => H.h1 (by simpa using hl)
                      · exact fun hl => H.h2 (by simpa using hl)
                      · exact fun _ => rfl
                      · exact fun hl => H.h4 (by simpa using hl)
                      · exact fun hl => H.h5 (by simpa using hl)
                      · exact fun hl => H.h6 (by simpa using hl)
                      · exact fun hl => H.h7 (by simpa using hl)
                      · exact fun hl => H.h8 (by simpa using hl)
                      · exact fun hl => H.h9 (by simpa using hl)
                      · exact fun hl => H.h10 (by simpa using hl)
                      · exact fun hl => H.h11 (by simpa using hl)
                      · exact fun hl => H.h13 (by simpa using hl)
                      · exact fun hl => by have := H.o12 (by simpa using hl); simp [this]
                      · exact fun hl => by have := H.o14 (by simpa using hl); simp [this]
                    · -- operation 4
                      have y3 : L 3 = true := by simp [hp]
                      obtain rfl := H.h3 y3
                      go_simp
                      refine Or.inl ?_
                      refine hK _ _ ⟨v56, v57, v58, _, _, v61, v62, v63, v64, v65, v66, v67, v68, rfl, ⟨?_, ?_, ?_, ?_, ?_, ?_, ?_, ?_, ?_, ?_, ?_, ?_, ?_, ?_, ?_, ?_, ?_, ?_, ?_⟩⟩
                      · exact by simpa using H.fr
                      · exact H.m
                      · exact H.r
                      · exact H.bx
                      · exact fun hl => H.h0 (by simpa using hl)
                      · exact fun hl => H.h1 (by simpa using hl)
                      · exact fun hl => H.h2 (by simpa using hl)
                      · exact fun hl => H.h3 (by simpa using hl)
                      · exact fun _ => rfl
                      · exact fun hl => H.h5 (by simpa using hl)
                      · exact fun hl => H.h6 (by simpa using hl)
                      · exact fun hl => H.h7 (by simpa using hl)
                      · exact fun hl => H.h8 (by simpa using hl)
                      · exact fun hl => H.h9 (by simpa using hl)
                      · exact fun hl => H.h10 (by simpa using hl)
                      · exact fun hl => H.h11 (by simpa using hl)
                      · exact fun hl => H.h13 (by simpa using hl)
                      · exact fun hl => by have := H.o12 (by simpa using hl); simp [this]
                      · exact fun hl => by have := H.o14 (by simpa using hl); simp [this]
                    · -- operation 5
                      have y1 : L 1 = true := by simp [hp]
                      obtain rfl := H.h1 y1
                      have y4 : L 4 = true := by simp [hp]
                      obtain rfl := H.h4 y4
                      go_simp
                      refine Or.inl ?_
                      refine hK _ _ ⟨v56, _, v58, v59, _, _, v62, v63, v64, v65, v66, v67, v68, rfl, ⟨?_, ?_, ?_, ?_, ?_, ?_, ?_, ?_, ?_, ?_, ?_, ?_, ?_, ?_, ?_, ?_, ?_, ?_, ?_⟩⟩
                      · exact by simpa using H.fr
                      · exact H.m
                      · exact H.r
                      · exact H.bx
                      · exact fun hl => H.h0 (by simpa using hl)
                      · exact fun hl => H.h1 (by simpa using hl)
                      · exact fun hl => H.h2 (by simpa using hl)
                      · exact fun hl => H.h3 (by simpa using hl)
                      · exact fun hl => H.h4 (by simpa using hl)
                      · exact fun _ => rfl
                      · exact fun hl => H.h6 (by simpa using hl)
                      · exact fun hl => H.h7 (by simpa using hl)
                      · exact fun hl => H.h8 (by simpa using hl)
                      · exact fun hl => H.h9 (by simpa using hl)
                      · exact fun hl => H.h10 (by simpa using hl)
                      · exact fun hl => H.h11 (by simpa using hl)
                      · exact fun hl => H.h13 (by simpa using hl)
                      · exact fun hl => by have := H.o12 (by simpa using hl); simp [this]
                      · exact fun hl => by have := H.o14 (by simpa using hl); simp [this]
                    · -- operation 6
                      go_simp
                      refine Or.inl ?_
                      refine hK _ _ ⟨v56, v57, v58, v59, v60, v61, _, v63, v64, v65, v66, v67, v68, rfl, ⟨?_, ?_, ?_, ?_, ?_, ?_, ?_, ?_, ?_, ?_, ?_, ?_, ?_, ?_, ?_, ?_, ?_, ?_, ?_⟩⟩
                      · exact by simpa using H.fr
                      · exact H.m
                      · exact H.r
                      · exact H.bx
                      · exact fun hl => H.h0 (by simpa using hl)
                      · exact fun hl => H.h1 (by simpa using hl)
                      · exact fun hl => H.h2 (by simpa using hl)
                      · exact fun hl => H.h3 (by simpa using hl)
                      · exact fun hl => H.h4 (by simpa using hl)
                      · exact fun hl => H.h5 (by simpa using hl)
                      · exact fun _ => rfl
                      · exact fun hl => H.h7 (by simpa using hl)
                      · exact fun hl => H.h8 (by simpa using hl)
                      · exact fun hl => H.h9 (by simpa using hl)
                      · exact fun hl => H.h10 (by simpa using hl)
                      · exact fun hl => H.h11 (by simpa using hl)
                      · exact fun hl => H.h13 (by simpa using hl)
                      · exact fun hl => by have := H.o12 (by simpa using hl); simp [this]
                      · exact fun hl => by have := H.o14 (by simpa using hl); simp [this]
                    · -- operation 7
                      have y6 : L 6 = true := by simp [hp]
                      obtain rfl := H.h6 y6
                      have n14 : L 14 = false := by cases e : L 14 with | false => rfl | true => exact absurd (H.o14 e) (by simp [hL])
                      have cf := H.fr.facts
                      rw [n14] at cf
                      obtain ⟨_, _, _, _, c2, _, _, _⟩ := cf
                      simp only [Bool.false_eq_true, if_false] at c2
                      go_simp
                      refine Or.inl ?_
                      refine hK _ _ ⟨v56, v57, v58, v59, v60, v61, _, _, v64, v65, v66, v67, v68, rfl, ⟨?_, ?_, ?_, ?_, ?_, ?_, ?_, ?_, ?_, ?_, ?_, ?_, ?_, ?_, ?_, ?_, ?_, ?_, ?_⟩⟩
                      · exact by simpa using H.fr
                      · exact H.m
                      · exact H.r
                      · exact H.bx
                      · exact fun hl => H.h0 (by simpa using hl)
                      · exact fun hl => H.h1 (by simpa using hl)
                      · exact fun hl => H.h2 (by simpa using hl)
                      · exact fun hl => H.h3 (by simpa using hl)
                      · exact fun hl => H.h4 (by simpa using hl)
                      · exact fun hl => H.h5 (by simpa using hl)
                      · exact fun hl => H.h6 (by simpa using hl)
                      · exact fun _ => rfl
                      · exact fun hl => H.h8 (by simpa using hl)
                      · exact fun hl => H.h9 (by simpa using hl)
                      · exact fun hl => H.h10 (by simpa using hl)
                      · exact fun hl => H.h11 (by simpa using hl)
                      · exact fun hl => H.h13 (by simpa using hl)
                      · exact fun hl => by have := H.o12 (by simpa using hl); simp [this]
                      · exact fun hl => by have := H.o14 (by simpa using hl); simp [this]
                    · -- operation 8
                      go_simp
                      refine Or.inl ?_
                      refine hK _ _ ⟨v56, v57, v58, v59, v60, v61, v62, v63, _, v65, v66, v67, v68, rfl, ⟨?_, ?_, ?_, ?_, ?_, ?_, ?_, ?_, ?_, ?_, ?_, ?_, ?_, ?_, ?_, ?_, ?_, ?_, ?_⟩⟩
                      · exact by simpa using H.fr
                      · exact H.m
                      · exact H.r
                      · exact H.bx
                      · exact fun hl => H.h0 (by simpa using hl)
                      · exact fun hl => H.h1 (by simpa using hl)
                      · exact fun hl => H.h2 (by simpa using hl)
                      · exact fun hl => H.h3 (by simpa using hl)
                      · exact fun hl => H.h4 (by simpa using hl)
                      · exact fun hl => H.h5 (by simpa using hl)
                      · exact fun hl => H.h6 (by simpa using hl)
                      · exact fun hl => H.h7 (by simpa using hl)
                      · exact fun _ => rfl
                      · exact fun hl => H.h9 (by simpa using hl)
                      · exact fun hl => H.h10 (by simpa using hl)
                      · exact fun hl => H.h11 (by simpa using hl)
                      · exact fun hl => H.h13 (by simpa using hl)
                      · exact fun hl => by have := H.o12 (by simpa using hl); simp [this]
                      · exact fun hl => by have := H.o14 (by simpa using hl); simp [this]
                    · -- operation 9
                      have y8 : L 8 = true := by simp [hp]
                      obtain rfl := H.h8 y8
                      have c2 : Wd.cell? ⟨b, 2, none⟩ = some (.int .i64 n3) := by rw [blk_cell H.bx]; rfl
                      go_simp
                      refine Or.inl ?_
                      refine hK _ _ ⟨v56, v57, v58, v59, v60, v61, v62, v63, _, _, v66, v67, v68, rfl, ⟨?_, ?_, ?_, ?_, ?_, ?_, ?_, ?_, ?_, ?_, ?_, ?_, ?_, ?_, ?_, ?_, ?_, ?_, ?_⟩⟩
                      · exact by simpa using H.fr
                      · exact H.m
                      · exact H.r
                      · exact H.bx
                      · exact fun hl => H.h0 (by simpa using hl)
                      · exact fun hl => H.h1 (by simpa using hl)
                      · exact fun hl => H.h2 (by simpa using hl)
                      · exact fun hl => H.h3 (by simpa using hl)
                      · exact fun hl => H.h4 (by simpa using hl)
                      · exact fun hl => H.h5 (by simpa using hl)
                      · exact fun hl => H.h6 (by simpa using hl)
                      · exact fun hl => H.h7 (by simpa using hl)
                      · exact fun hl => H.h8 (by simpa using hl)
                      · exact fun _ => rfl
                      · exact fun hl => H.h10 (by simpa using hl)
                      · exact fun hl => H.h11 (by simpa using hl)
                      · exact fun hl => H.h13 (by simpa using hl)
                      · exact fun hl => by have := H.o12 (by simpa using hl); simp [this]
                      · exact fun hl => by have := H.o14 (by simpa using hl); simp [this]
                    · -- operation 10
                      have y7 : L 7 = true := by simp [hp]
                      obtain rfl := H.h7 y7
                      have y9 : L 9 = true := by simp [hp]
                      obtain rfl := H.h9 y9
                      go_simp
                      refine Or.inl ?_
                      refine hK _ _ ⟨v56, v57, v58, v59, v60, v61, v62, _, v64, _, _, v67, v68, rfl, ⟨?_, ?_, ?_, ?_, ?_, ?_, ?_, ?_, ?_, ?_, ?_, ?_, ?_, ?_, ?_, ?_, ?_, ?_, ?_⟩⟩
                      · exact by simpa using H.fr
                      · exact H.m
                      · exact H.r
                      · exact H.bx
                      · exact fun hl => H.h0 (by simpa using hl)
                      · exact fun hl => H.h1 (by simpa using hl)
                      · exact fun hl => H.h2 (by simpa using hl)
                      · exact fun hl => H.h3 (by simpa using hl)
                      · exact fun hl => H.h4 (by simpa using hl)
                      · exact fun hl => H.h5 (by simpa using hl)
                      · exact fun hl => H.h6 (by simpa using hl)
                      · exact fun hl => H.h7 (by simpa using hl)
                      · exact fun hl => H.h8 (by simpa using hl)
                      · exact fun hl => H.h9 (by simpa using hl)
                      · exact fun _ => rfl
                      · exact fun hl => H.h11 (by simpa using hl)
                      · exact fun hl => H.h13 (by simpa using hl)
                      · exact fun hl => by have := H.o12 (by simpa using hl); simp [this]
                      · exact fun hl => by have := H.o14 (by simpa using hl); simp [this]
                    · -- operation 11
                      go_simp
                      refine Or.inl ?_
                      refine hK _ _ ⟨v56, v57, v58, v59, v60, v61, v62, v63, v64, v65, v66, _, v68, rfl, ⟨?_, ?_, ?_, ?_, ?_, ?_, ?_, ?_, ?_, ?_, ?_, ?_, ?_, ?_, ?_, ?_, ?_, ?_, ?_⟩⟩
                      · exact by simpa using H.fr
                      · exact H.m
                      · exact H.r
                      · exact H.bx
                      · exact fun hl => H.h0 (by simpa using hl)
                      · exact fun hl => H.h1 (by simpa using hl)
                      · exact fun hl => H.h2 (by simpa using hl)
                      · exact fun hl => H.h3 (by simpa using hl)
                      · exact fun hl => H.h4 (by simpa using hl)
                      · exact fun hl => H.h5 (by simpa using hl)
                      · exact fun hl => H.h6 (by simpa using hl)
                      · exact fun hl => H.h7 (by simpa using hl)
                      · exact fun hl => H.h8 (by simpa using hl)
                      · exact fun hl => H.h9 (by simpa using hl)
                      · exact fun hl => H.h10 (by simpa using hl)
                      · exact fun _ => rfl
                      · exact fun hl => H.h13 (by simpa using hl)
                      · exact fun hl => by have := H.o12 (by simpa using hl); simp [this]
                      · exact fun hl => by have := H.o14 (by simpa using hl); simp [this]
                    · -- operation 12
                      have y11 : L 11 = true := by simp [hp]
                      obtain rfl := H.h11 y11
                      have y5 : L 5 = true := by simp [hp]
                      obtain rfl := H.h5 y5
                      have y1 : L 1 = true := by simp [hp]
                      obtain ⟨_, _, _, c1, c2, _, f1, f2⟩ := H.fr.facts
                      go_simp
                      refine Or.inl ?_
                      refine hK _ _ ⟨v56, v57, v58, v59, v60, _, v62, v63, v64, v65, v66, _, v68, rfl, ⟨?_, ?_, ?_, ?_, ?_, ?_, ?_, ?_, ?_, ?_, ?_, ?_, ?_, ?_, ?_, ?_, ?_, ?_, ?_⟩⟩
                      · exact by have := H.fr.put 1 (mx o2 y) (x, mx o2 y, (if L 14 = true then z else o3)) rfl; simpa [hL] using this
                      · exact H.m.set (by have := HBW.out; omega) _
                      · exact H.r.put (b := W.heap.size + 3) H.fr.o (by decide)
                      · exact (Below.heap_setCell _ _ _ _ (by show b ≠ W.heap.size + 3; have := HX1.out; omega)).trans H.bx
                      · exact fun hl => H.h0 (by simpa using hl)
                      · exact fun hl => H.h1 (by simpa using hl)
                      · exact fun hl => H.h2 (by simpa using hl)
                      · exact fun hl => H.h3 (by simpa using hl)
                      · exact fun hl => H.h4 (by simpa using hl)
                      · exact fun _ => rfl
                      · exact fun hl => H.h6 (by simpa using hl)
                      · exact fun hl => H.h7 (by simpa using hl)
                      · exact fun hl => H.h8 (by simpa using hl)
                      · exact fun hl => H.h9 (by simpa using hl)
                      · exact fun hl => H.h10 (by simpa using hl)
                      · exact fun hl => H.h11 (by simpa using hl)
                      · exact fun hl => H.h13 (by simpa using hl)
                      · exact fun _ => by simp [y1]
                      · exact fun hl => by have := H.o14 (by simpa using hl); simp [this]
                    · -- operation 13
                      go_simp
                      refine Or.inl ?_
                      refine hK _ _ ⟨v56, v57, v58, v59, v60, v61, v62, v63, v64, v65, v66, v67, _, rfl, ⟨?_, ?_, ?_, ?_, ?_, ?_, ?_, ?_, ?_, ?_, ?_, ?_, ?_, ?_, ?_, ?_, ?_, ?_, ?_⟩⟩
                      · exact by simpa using H.fr
                      · exact H.m
                      · exact H.r
                      · exact H.bx
                      · exact fun hl => H.h0 (by simpa using hl)
                      · exact fun hl => H.h1 (by simpa using hl)
                      · exact fun hl => H.h2 (by simpa using hl)
                      · exact fun hl => H.h3 (by simpa using hl)
                      · exact fun hl => H.h4 (by simpa using hl)
                      · exact fun hl => H.h5 (by simpa using hl)
                      · exact fun hl => H.h6 (by simpa using hl)
                      · exact fun hl => H.h7 (by simpa using hl)
                      · exact fun hl => H.h8 (by simpa using hl)
                      · exact fun hl => H.h9 (by simpa using hl)
                      · exact fun hl => H.h10 (by simpa using hl)
                      · exact fun hl => H.h11 (by simpa using hl)
                      · exact fun _ => rfl
                      · exact fun hl => by have := H.o12 (by simpa using hl); simp [this]
                      · exact fun hl => by have := H.o14 (by simpa using hl); simp [this]
                    · -- operation 14
                      have y13 : L 13 = true := by simp [hp]
                      obtain rfl := H.h13 y13
                      have y10 : L 10 = true := by simp [hp]
                      obtain rfl := H.h10 y10
                      have y7 : L 7 = true := by simp [hp]
                      obtain ⟨_, _, _, c1, c2, _, f1, f2⟩ := H.fr.facts
                      go_simp
                      refine Or.inl ?_
                      refine hK _ _ ⟨v56, v57, v58, v59, v60, v61, v62, v63, v64, v65, _, v67, _, rfl, ⟨?_, ?_, ?_, ?_, ?_, ?_, ?_, ?_, ?_, ?_, ?_, ?_, ?_, ?_, ?_, ?_, ?_, ?_, ?_⟩⟩
                      · exact by have := H.fr.put 2 z (x, (if L 12 = true then mx o2 y else o2), z) rfl; simpa [hL] using this
                      · exact H.m.set (by have := HBW.out; omega) _
                      · exact H.r.put (b := W.heap.size + 3) H.fr.o (by decide)
                      · exact (Below.heap_setCell _ _ _ _ (by show b ≠ W.heap.size + 3; have := HX1.out; omega)).trans H.bx
                      · exact fun hl => H.h0 (by simpa using hl)
                      · exact fun hl => H.h1 (by simpa using hl)
                      · exact fun hl => H.h2 (by simpa using hl)
                      · exact fun hl => H.h3 (by simpa using hl)
                      · exact fun hl => H.h4 (by simpa using hl)
                      · exact fun hl => H.h5 (by simpa using hl)
                      · exact fun hl => H.h6 (by simpa using hl)
                      · exact fun hl => H.h7 (by simpa using hl)
                      · exact fun hl => H.h8 (by simpa using hl)
                      · exact fun hl => H.h9 (by simpa using hl)
                      · exact fun _ => rfl
                      · exact fun hl => H.h11 (by simpa using hl)
                      · exact fun hl => H.h13 (by simpa using hl)
                      · exact fun hl => by have := H.o12 (by simpa using hl); simp [this]
                      · exact fun _ => by simp [y7]
                  case fin2 =>
                    rintro L a Wd hall ⟨v56, v57, v58, v59, v60, v61, v62, v63, v64, v65, v66, v67, v68, rfl, H⟩
                    have hF := H.fr
                    rw [if_pos (hall 12 (by decide)), if_pos (hall 14 (by decide))] at hF
                    have HFd := Aside0.mk hF
                    have HMd := Aside0.mk H.m
                    have HRd := Aside0.mk H.r
                    have HEd := Aside0.mk (hE.kept _ _ B M HEnv.out HM.out hF.g)
                    clear H hall hF hy hy' hzz hzz'
                    go_wp2
                    go_roundg k1
                    case measure => omega
                    case rel => exact ⟨i + 1, (x, mx o2 y, z), M3, rfl, ⟨by have := HI.out; omega⟩, ⟨by have := HK.out; omega⟩, ⟨by rw [← HUP.out]; exact HRN3.out⟩, HFd, HMd, HEd, HRd⟩
                · have e1' : decide (o1 < 0) = false := decide_eq_false e1
                  by_cases e2 : x < o1
                  · have e2' : decide (x < o1) = true := decide_eq_true e2
                    have E1 := Aside0.mk e1
                    have E2 := Aside0.mk e2
                    clear e1 e2
                    go_wp2
                    have e1 := E1.out
                    have e2 := E2.out
                    have FD_ := Aside0.mk (show plFr W B (.func (.func 67) #[] #[.pointer (some ⟨Bg, 0, none⟩)]) (x, o2, o3) (Wc.setCell ⟨W.heap.size + 1 + 1 + 1, 0, none⟩ (.int .i64 x)) from HFc.out.put 0 x (x, o2, o3) rfl)
                    have MD_ := Aside0.mk (show plMem (Wc.setCell ⟨W.heap.size + 1 + 1 + 1, 0, none⟩ (.int .i64 x)) B M3 from HMc.out.set (by have := HBW.out; omega) _)
                    have RD_ := Aside0.mk (show plRow (Wc.setCell ⟨W.heap.size + 1 + 1 + 1, 0, none⟩ (.int .i64 x)) W.heap.size (.slice (some ⟨g, 0, none⟩) ms.length c6) ms from HRc.out.put (b := W.heap.size + 3) HFc.out.o (by decide))
                    have BD_ := Aside0.mk (show (Wc.setCell ⟨W.heap.size + 1 + 1 + 1, 0, none⟩ (.int .i64 x)).heap[b]? = some (.cells #[.int .i64 n1, .int .i64 n2, .int .i64 n3] 55 (0, 0)) from (Below.heap_setCell _ _ _ _ (by show b ≠ W.heap.size + 3; have := HX1.out; omega)).trans HX.out)
                    obtain ⟨y, hy⟩ : ∃ y : Int, wrap64 (n2 + 1) = y := ⟨_, rfl⟩
                    obtain ⟨z, hzz⟩ : ∃ z : Int, wrap64 (o3 + n3) = z := ⟨_, rfl⟩
                    have hy' : IntKind.i64.wrap (n2 + 1) = y := (i64_w _).trans hy
                    have hzz' : IntKind.i64.wrap (o3 + n3) = z := (i64_w _).trans hzz
                    have HUP := Aside0.mk (show plUpd (o1, o2, o3) (n1, n2, n3) = (x, mx o2 y, z) from by simp only [plUpd, hx, hy, hzz]; rw [if_pos (by omega)])
                    clear hx
                    refine region_inv (J := fun L a Wd => ∃ v56 v57 v58 v59 v60 v61 v62 v63 v64 v65 v66 v67 v68 : Value, a = { tmps := #[Value.agg #[Value.func (Fn.func 67) #[] #[.pointer (some ⟨Bg, 0, none⟩)], Value.map (some B)], Value.string s, Value.pointer (some { block := W.heap.size, off := 0 }), undef, Value.pointer (some { block := W.heap.size + 1, off := 0 }), Value.pointer (some { block := W.heap.size + 1 + 1, off := 0 }), Value.bool false, Value.pointer (some { block := W.heap.size + 1 + 1 + 1, off := 0 }), undef, Value.int IntKind.i64 m, Value.pointer (some { block := b, off := 0 }), Value.tuple #[Value.agg #[Value.int IntKind.i64 0, Value.int IntKind.i64 0, Value.int IntKind.i64 0], Value.bool false], Value.pointer (some { block := W.heap.size, off := 1 }), Value.map (some B), Value.string s, Value.tuple #[Value.agg #[Value.int IntKind.i64 0, Value.int IntKind.i64 0, Value.int IntKind.i64 0], Value.bool false], Value.agg #[Value.int IntKind.i64 0, Value.int IntKind.i64 0, Value.int IntKind.i64 0], Value.bool false, Value.bool false, undef, Value.agg #[Value.int IntKind.i64 (-1), Value.int IntKind.i64 (-1), Value.int IntKind.i64 0], Value.pointer (some { block := W.heap.size, off := 0 }), Value.func (Fn.func 67) #[] #[.pointer (some ⟨Bg, 0, none⟩)], Value.string s, Value.bool false, undef, Value.string s, Value.slice (some { block := g, off := 0 }) ms.length c6, Value.int IntKind.i64 (ms.length : Int), Value.int IntKind.i64 i, Value.bool true, Value.pointer (some { block := g, off := i.toNat }), Value.int IntKind.i64 m, v33, v34, v35, v36, Value.agg #[Value.int IntKind.i64 n1, Value.int IntKind.i64 n2, Value.int IntKind.i64 n3], Value.pointer (some { block := b, off := 2 }), Value.int IntKind.i64 n3, Value.bool false, Value.pointer (some { block := W.heap.size + 1 + 1 + 1, off := 0 }), Value.int IntKind.i64 o1, Value.bool false, Value.bool false, Value.pointer (some { block := b, off := 0 }), Value.int IntKind.i64 n1, Value.int IntKind.i64 x, Value.pointer (some { block := W.heap.size + 1 + 1 + 1, off := 0 }), Value.int IntKind.i64 o1, Value.bool true, Value.bool true, Value.pointer (some { block := b, off := 0 }), Value.int IntKind.i64 n1, Value.int IntKind.i64 x, Value.pointer (some { block := W.heap.size + 1 + 1 + 1, off := 0 }), v56, v57, v58, v59, v60, v61, v62, v63, v64, v65, v66, v67, v68, u69, undef, undef, undef, undef, undef], defers := [] } ∧ plR2 W B (.func (.func 67) #[] #[.pointer (some ⟨Bg, 0, none⟩)]) b ms (.slice (some ⟨g, 0, none⟩) ms.length c6) x o2 o3 n1 n2 n3 y z M3 L v56 v57 v58 v59 v60 v61 v62 v63 v64 v65 v66 v67 v68 Wd) (by kernel_rfl) (by kernel_rfl) ?start2 ?step2 ?fin2
                    case start2 => exact ⟨_, _, _, _, _, _, _, _, _, _, _, _, _, rfl, ⟨by simpa using FD_.out.kept HBW.out (plGrown (below_drew1 (Below.refl _ _)) _), MD_.out.below (below_drew1 (Below.refl _ _)), RD_.out.kept (plGrown (below_drew1 (Below.refl _ _)) _) HBW.out, BD_.out, nofun, nofun, nofun, nofun, nofun, nofun, nofun, nofun, nofun, nofun, nofun, nofun, nofun, nofun, nofun⟩⟩
                    case step2 =>
                      rintro L a Wd j ob ho hL hp ⟨v56, v57, v58, v59, v60, v61, v62, v63, v64, v65, v66, v67, v68, rfl, H⟩
                      have hj : j < 15 := (Array.getElem?_eq_some_iff.1 ho).1
                      rcases (show j = 0 ∨ j = 1 ∨ j = 2 ∨ j = 3 ∨ j = 4 ∨ j = 5 ∨ j = 6 ∨ j = 7 ∨ j = 8 ∨ j = 9 ∨ j = 10 ∨ j = 11 ∨ j = 12 ∨ j = 13 ∨ j = 14 by omega) with rfl | rfl | rfl | rfl | rfl | rfl | rfl | rfl | rfl | rfl | rfl | rfl | rfl | rfl | rfl
                      all_goals (obtain rfl : _ = ob := Option.some.inj (show some _ = some ob from ho); simp [Region.binds] at hp; refine plOp_of rfl (fun K hK => ?_))
                      · -- operation 0
                        go_simp
                        refine Or.inl ?_
                        refine hK _ _ ⟨_, v57, v58, v59, v60, v61, v62, v63, v64, v65, v66, v67, v68, rfl, ⟨?_, ?_, ?_, ?_, ?_, ?_, ?_, ?_, ?_, ?_, ?_, ?_, ?_, ?_, ?_, ?_, ?_, ?_, ?_⟩⟩
                        · exact by simpa using H.fr
                        · exact H.m
                        · exact H.r
                        · exact H.bx
                        · exact fun _ => rfl
                        · exact fun hl => H.h1 (by simpa using hl)
                        · exact fun hl => H.h2 (by simpa using hl)
                        · exact fun hl => H.h3 (by simpa using hl)
                        · exact fun hl => H.h4 (by simpa using hl)
                        · exact fun hl => H.h5 (by simpa using hl)
                        · exact fun hl => H.h6 (by simpa using hl)
                        · exact fun hl => H.h7 (by simpa using hl)
                        · exact fun hl => H.h8 (by simpa using hl)
                        · exact fun hl => H.h9 (by simpa using hl)
                        · exact fun hl => H.h10 (by simpa using hl)
                        · exact fun hl => H.h11 (by simpa using hl)
                        · exact fun hl => H.h13 (by simpa using hl)
                        · exact fun hl => by have := H.o12 (by simpa using hl); simp [this]
                        · exact fun hl => by have := H.o14 (by simpa using hl); simp [this]
                      · -- operation 1
                        have y0 : L 0 = true := by simp [hp]
                        obtain rfl := H.h0 y0
                        have n12 : L 12 = false := by cases e : L 12 with | false => rfl | true => exact absurd (H.o12 e) (by simp [hL])
                        have cf := H.fr.facts
                        rw [n12] at cf
                        obtain ⟨_, _, _, c1, _, _, _, _⟩ := cf
                        simp only [Bool.false_eq_true, if_false] at c1
                        go_simp
                        refine Or.inl ?_
                        refine hK _ _ ⟨_, _, v58, v59, v60, v61, v62, v63, v64, v65, v66, v67, v68, rfl, ⟨?_, ?_, ?_, ?_, ?_, ?_, ?_, ?_, ?_, ?_, ?_, ?_, ?_, ?_, ?_, ?_, ?_, ?_, ?_⟩⟩
                        · exact by simpa using H.fr
                        · exact H.m
                        · exact H.r
                        · exact H.bx
                        · exact fun hl => H.h0 (by simpa using hl)
                        · exact fun _ => rfl
                        · exact fun hl => H.h2 (by simpa using hl)
                        · exact fun hl => H.h3 (by simpa using hl)
                        · exact fun hl => H.h4 (by simpa using hl)
                        · exact fun hl => H.h5 (by simpa using hl)
                        · exact fun hl => H.h6 (by simpa using hl)
                        · exact fun hl => H.h7 (by simpa using hl)
                        · exact fun hl => H.h8 (by simpa using hl)
                        · exact fun hl => H.h9 (by simpa using hl)
                        · exact fun hl => H.h10 (by simpa using hl)
                        · exact fun hl => H.h11 (by simpa using hl)
                        · exact fun hl => H.h13 (by simpa using hl)
                        · exact fun hl => by have := H.o12 (by simpa using hl); simp [this]
                        · exact fun hl => by have := H.o14 (by simpa using hl); simp [this]
                      · -- operation 2
                        go_simp
                        refine Or.inl ?_
                        refine hK _ _ ⟨v56, v57, _, v59, v60, v61, v62, v63, v64, v65, v66, v67, v68, rfl, ⟨?_, ?_, ?_, ?_, ?_, ?_, ?_, ?_, ?_, ?_, ?_, ?_, ?_, ?_, ?_, ?_, ?_, ?_, ?_⟩⟩
                        · exact by simpa using H.fr
                        · exact H.m
                        · exact H.r
                        · exact H.bx
                        · exact fun hl => H.h0 (by simpa using hl)
                        · exact fun hl => H.h1 (by simpa using hl)
                        · exact fun _ => rfl
                        · exact fun hl => H.h3 (by simpa using hl)
                        · exact fun hl => H.h4 (by simpa using hl)
                        · exact fun hl => H.h5 (by simpa using hl)
                        · exact fun hl => H.h6 (by simpa using hl)
                        · exact fun hl => H.h7 (by simpa using hl)
                        · exact fun hl => H.h8 (by simpa using hl)
                        · exact fun hl => H.h9 (by simpa using hl)
                        · exact fun hl => H.h10 (by simpa using hl)
                        · exact fun hl => H.h11 (by simpa using hl)
                        · exact fun hl => H.h13 (by simpa using hl)
                        · exact fun hl => by have := H.o12 (by simpa using hl); simp [this]
                        · exact fun hl => by have := H.o14 (by simpa using hl); simp [this]
                      · -- operation 3
                        have y2 : L 2 = true := by simp [hp]
                        obtain rfl := H.h2 y2
                        have c1 : Wd.cell? ⟨b, 1, none⟩ = some (.int .i64 n2) := by rw [blk_cell H.bx]; rfl
                        go_simp
                        refine Or.inl ?_
                        refine hK _ _ ⟨v56, v57, _, _, v60, v61, v62, v63, v64, v65, v66, v67, v68, rfl, ⟨?_, ?_, ?_, ?_, ?_, ?_, ?_, ?_, ?_, ?_, ?_, ?_, ?_, ?_, ?_, ?_, ?_, ?_, ?_⟩⟩
                        · exact by simpa using H.fr
                        · exact H.m
                        · exact H.r
                        · exact H.bx
                        · exact fun hl => H.h0 (by simpa using hl)
                        · exact fun hl => H.h1 (by simpa using hl)
                        · exact fun hl => H.h2 (by simpa using hl)
                        · exact fun _ => rfl
                        · exact fun hl => H.h4 (by simpa using hl)
                        · exact fun hl => H.h5 (by simpa using hl)
                        · exact fun hl => H.h6 (by simpa using hl)
                        · exact fun hl => H.h7 (by simpa using hl)
                        · exact fun hl => H.h8 (by simpa using hl)
                        · exact fun hl => H.h9 (by simpa using hl)
                        · exact fun hl => H.h10 (by simpa using hl)
                        · exact fun hl => H.h11 (by simpa using hl)
                        · exact fun hl => H.h13 (by simpa using hl)
                        · exact fun hl => by have := H.o12 (by simpa using hl); simp [this]
                        · exact fun hl => by have := H.o14 (by simpa using hl); simp [this]
                      · -- operation 4
                        have y3 : L 3 = true := by simp [hp]
                        obtain rfl := H.h3 y3
                        go_simp
                        refine Or.inl ?_
                        refine hK _ _ ⟨v56, v57, v58, _, _, v61, v62, v63, v64, v65, v66, v67, v68, rfl, ⟨?_, ?_, ?_, ?_, ?_, ?_, ?_, ?_, ?_, ?_, ?_, ?_, ?_, ?_, ?_, ?_, ?_, ?_, ?_⟩⟩
                        · exact by simpa using H.fr
                        · exact H.m
                        · exact H.r
                        · exact H.bx
                        · exact fun hl => H.h0 (by simpa using hl)
                        · exact fun hl => H.h1 (by simpa using hl)
                        · exact fun hl => H.h2 (by simpa using hl)
                        · exact fun hl => H.h3 (by simpa using hl)
                        · exact fun _ => rfl
                        · exact fun hl => H.h5 (by simpa using hl)
                        · exact fun hl => H.h6 (by simpa using hl)
                        · exact fun hl => H.h7 (by simpa using hl)
                        · exact fun hl => H.h8 (by simpa using hl)
                        · exact fun hl => H.h9 (by simpa using hl)
                        · exact fun hl => H.h10 (by simpa using hl)
                        · exact fun hl => H.h11 (by simpa using hl)
                        · exact fun hl => H.h13 (by simpa using hl)
                        · exact fun hl => by have := H.o12 (by simpa using hl); simp [this]
                        · exact fun hl => by have := H.o14 (by simpa using hl); simp [this]
                      · -- operation 5
                        have y1 : L 1 = true := by simp [hp]
                        obtain rfl := H.h1 y1
                        have y4 : L 4 = true := by simp [hp]
                        obtain rfl := H.h4 y4
                        go_simp
                        refine Or.inl ?_
                        refine hK _ _ ⟨v56, _, v58, v59, _, _, v62, v63, v64, v65, v66, v67, v68, rfl, ⟨?_, ?_, ?_, ?_, ?_, ?_, ?_, ?_, ?_, ?_, ?_, ?_, ?_, ?_, ?_, ?_, ?_, ?_, ?_⟩⟩
                        · exact by simpa using H.fr
                        · exact H.m
                        · exact H.r
                        · exact H.bx
                        · exact fun hl => H.h0 (by simpa using hl)
                        · exact fun hl => H.h1 (by simpa using hl)
                        · exact fun hl => H.h2 (by simpa using hl)
                        · exact fun hl => H.h3 (by simpa using hl)
                        · exact fun hl => H.h4 (by simpa using hl)
                        · exact fun _ => rfl
                        · exact fun hl => H.h6 (by simpa using hl)
                        · exact fun hl => H.h7 (by simpa using hl)
                        · exact fun hl => H.h8 (by simpa using hl)
                        · exact fun hl => H.h9 (by simpa using hl)
                        · exact fun hl => H.h10 (by simpa using hl)
                        · exact fun hl => H.h11 (by simpa using hl)
                        · exact fun hl => H.h13 (by simpa using hl)
                        · exact fun hl => by have := H.o12 (by simpa using hl); simp [this]
                        · exact fun hl => by have := H.o14 (by simpa using hl); simp [this]
                      · -- operation 6
                        go_simp
                        refine Or.inl ?_
                        refine hK _ _ ⟨v56, v57, v58, v59, v60, v61, _, v63, v64, v65, v66, v67, v68, rfl, ⟨?_, ?_, ?_, ?_, ?_, ?_, ?_, ?_, ?_, ?_, ?_, ?_, ?_, ?_, ?_, ?_, ?_, ?_, ?_⟩⟩
                        · exact by simpa using H.fr
                        · exact H.m
                        · exact H.r
                        · exact H.bx
                        · exact fun hl => H.h0 (by simpa using hl)
                        · exact fun hl => H.h1 (by simpa using hl)
                        · exact fun hl => H.h2 (by simpa using hl)
                        · exact fun hl => H.h3 (by simpa using hl)
                        · exact fun hl => H.h4 (by simpa using hl)
                        · exact fun hl => H.h5 (by simpa using hl)
                        · exact fun _ => rfl
                        · exact fun hl => H.h7 (by simpa using hl)
                        · exact fun hl => H.h8 (by simpa using hl)
                        · exact fun hl => H.h9 (by simpa using hl)
                        · exact fun hl => H.h10 (by simpa using hl)
                        · exact fun hl => H.h11 (by simpa using hl)
                        · exact fun hl => H.h13 (by simpa using hl)
                        · exact fun hl => by have := H.o12 (by simpa using hl); simp [this]
                        · exact fun hl => by have := H.o14 (by simpa using hl); simp [this]
                      · -- operation 7
                        have y6 : L 6 = true := by simp [hp]
                        obtain rfl := H.h6 y6
                        have n14 : L 14 = false := by cases e : L 14 with | false => rfl | true => exact absurd (H.o14 e) (by simp [hL])
                        have cf := H.fr.facts
                        rw [n14] at cf
                        obtain ⟨_, _, _, _, c2, _, _, _⟩ := cf
                        simp only [Bool.false_eq_true, if_false] at c2
                        go_simp
                        refine Or.inl ?_
                        refine hK _ _ ⟨v56, v57, v58, v59, v60, v61, _, _, v64, v65, v66, v67, v68, rfl, ⟨?_, ?_, ?_, ?_, ?_, ?_, ?_, ?_, ?_, ?_, ?_, ?_, ?_, ?_, ?_, ?_, ?_, ?_, ?_⟩⟩
                        · exact by simpa using H.fr
                        · exact H.m
                        · exact H.r
                        · exact H.bx
                        · exact fun hl => H.h0 (by simpa using hl)
                        · exact fun hl => H.h1 (by simpa using hl)
                        · exact fun hl => H.h2 (by simpa using hl)
                        · exact fun hl => H.h3 (by simpa using hl)
                        · exact fun hl => H.h4 (by simpa using hl)
                        · exact fun hl => H.h5 (by simpa using hl)
                        · exact fun hl => H.h6 (by simpa using hl)
                        · exact fun _ => rfl
                        · exact fun hl => H.h8 (by simpa using hl)
                        · exact fun hl => H.h9 (by simpa using hl)
                        · exact fun hl => H.h10 (by simpa using hl)
                        · exact fun hl => H.h11 (by simpa using hl)
                        · exact fun hl => H.h13 (by simpa using hl)
                        · exact fun hl => by have := H.o12 (by simpa using hl); simp [this]
                        · exact fun hl => by have := H.o14 (by simpa using hl); simp [this]
                      · -- operation 8
                        go_simp
                        refine Or.inl ?_
                        refine hK _ _ ⟨v56, v57, v58, v59, v60, v61, v62, v63, _, v65, v66, v67, v68, rfl, ⟨?_, ?_, ?_, ?_, ?_, ?_, ?_, ?_, ?_, ?_, ?_, ?_, ?_, ?_, ?_, ?_, ?_, ?_, ?_⟩⟩
                        · exact by simpa using H.fr
                        · exact H.m
                        · exact H.r
                        · exact H.bx
                        · exact fun hl => H.h0 (by simpa using hl)
                        · exact fun hl => H.h1 (by simpa using hl)
                        · exact fun hl => H.h2 (by simpa using hl)
                        · exact fun hl => H.h3 (by simpa using hl)
                        · exact fun hl => H.h4 (by simpa using hl)
                        · exact fun hl => H.h5 (by simpa using hl)
                        · exact fun hl => H.h6 (by simpa using hl)
                        · exact fun hl => H.h7 (by simpa using hl)
                        · exact fun _ => rfl
                        · exact fun hl => H.h9 (by simpa using hl)
                        · exact fun hl => H.h10 (by simpa using hl)
                        · exact fun hl => H.h11 (by simpa using hl)
                        · exact fun hl => H.h13 (by simpa using hl)
                        · exact fun hl => by have := H.o12 (by simpa using hl); simp [this]
                        · exact fun hl => by have := H.o14 (by simpa using hl); simp [this]
                      · -- operation 9
                        have y8 : L 8 = true := by simp [hp]
                        obtain rfl := H.h8 y8
                        have c2 : Wd.cell? ⟨b, 2, none⟩ = some (.int .i64 n3) := by rw [blk_cell H.bx]; rfl
                        go_simp
                        refine Or.inl ?_
                        refine hK _ _ ⟨v56, v57, v58, v59, v60, v61, v62, v63, _, _, v66, v67, v68, rfl, ⟨?_, ?_, ?_, ?_, ?_, ?_, ?_, ?_, ?_, ?_, ?_, ?_, ?_, ?_, ?_, ?_, ?_, ?_, ?_⟩⟩
                        · exact by simpa using H.fr
                        · exact H.m
                        · exact H.r
                        · exact H.bx
                        · exact fun hl => H.h0 (by simpa using hl)
                        · exact fun hl => H.h1 (by simpa using hl)
                        · exact fun hl => H.h2 (by simpa using hl)
                        · exact fun hl => H.h3 (by simpa using hl)
                        · exact fun hl => H.h4 (by simpa using hl)
                        · exact fun hl => H.h5 (by simpa using hl)
                        · exact fun hl => H.h6 (by simpa using hl)
                        · exact fun hl => H.h7 (by simpa using hl)
                        · exact fun hl => H.h8 (by simpa using hl)
                        · exact fun _ => rfl
                        · exact fun hl => H.h10 (by simpa using hl)
                        · exact fun hl => H.h11 (by simpa using hl)
                        · exact fun hl => H.h13 (by simpa using hl)
                        · exact fun hl => by have := H.o12 (by simpa using hl); simp [this]
                        · exact fun hl => by have := H.o14 (by simpa using hl); simp [this]
                      · -- operation 10
                        have y7 : L 7 = true := by simp [hp]
                        obtain rfl := H.h7 y7
                        have y9 : L 9 = true := by simp [hp]
                        obtain rfl := H.h9 y9
                        go_simp
                        refine Or.inl ?_
                        refine hK _ _ ⟨v56, v57, v58, v59, v60, v61, v62, _, v64, _, _, v67, v68, rfl, ⟨?_, ?_, ?_, ?_, ?_, ?_, ?_, ?_, ?_, ?_, ?_, ?_, ?_, ?_, ?_, ?_, ?_, ?_, ?_⟩⟩
                        · exact by simpa using H.fr
                        · exact H.m
                        · exact H.r
                        · exact H.bx
                        · exact fun hl => H.h0 (by simpa using hl)
                        · exact fun hl => H.h1 (by simpa using hl)
                        · exact fun hl => H.h2 (by simpa using hl)
                        · exact fun hl => H.h3 (by simpa using hl)
                        · exact fun hl => H.h4 (by simpa using hl)
                        · exact fun hl => H.h5 (by simpa using hl)
                        · exact fun hl => H.h6 (by simpa using hl)
                        · exact fun hl => H.h7 (by simpa using hl)
                        · exact fun hl => H.h8 (by simpa using hl)
                        · exact fun hl => H.h9 (by simpa using hl)
                        · exact fun _ => rfl
                        · exact fun hl => H.h11 (by simpa using hl)
                        · exact fun hl => H.h13 (by simpa using hl)
                        · exact fun hl => by have := H.o12 (by simpa using hl); simp [this]
                        · exact fun hl => by have := H.o14 (by simpa using hl); simp [this]
                      · -- operation 11
                        go_simp
                        refine Or.inl ?_
                        refine hK _ _ ⟨v56, v57, v58, v59, v60, v61, v62, v63, v64, v65, v66, _, v68, rfl, ⟨?_, ?_, ?_, ?_, ?_, ?_, ?_, ?_, ?_, ?_, ?_, ?_, ?_, ?_, ?_, ?_, ?_, ?_, ?_⟩⟩
                        · exact by simpa using H.fr
                        · exact H.m
                        · exact H.r
                        · exact H.bx
                        · exact fun hl => H.h0 (by simpa using hl)
                        · exact fun hl => H.h1 (by simpa using hl)
                        · exact fun hl => H.h2 (by simpa using hl)
                        · exact fun hl => H.h3 (by simpa using hl)
                        · exact fun hl => H.h4 (by simpa using hl)
                        · exact fun hl => H.h5 (by simpa using hl)
                        · exact fun hl => H.h6 (by simpa using hl)
                        · exact fun hl => H.h7 (by simpa using hl)
                        · exact fun hl => H.h8 (by simpa using hl)
                        · exact fun hl => H.h9 (by simpa using hl)
                        · exact fun hl => H.h10 (by simpa using hl)
                        · exact fun _ => rfl
                        · exact fun hl => H.h13 (by simpa using hl)
                        · exact fun hl => by have := H.o12 (by simpa using hl); simp [this]
                        · exact fun hl => by have := H.o14 (by simpa using hl); simp [this]
                      · -- operation 12
                        have y11 : L 11 = true := by simp [hp]
                        obtain rfl := H.h11 y11
                        have y5 : L 5 = true := by simp [hp]
                        obtain rfl := H.h5 y5
                        have y1 : L 1 = true := by simp [hp]
                        obtain ⟨_, _, _, c1, c2, _, f1, f2⟩ := H.fr.facts
                        go_simp
                        refine Or.inl ?_
                        refine hK _ _ ⟨v56, v57, v58, v59, v60, _, v62, v63, v64, v65, v66, _, v68, rfl, ⟨?_, ?_, ?_, ?_, ?_, ?_, ?_, ?_, ?_, ?_, ?_, ?_, ?_, ?_, ?_, ?_, ?_, ?_, ?_⟩⟩
                        · exact by have := H.fr.put 1 (mx o2 y) (x, mx o2 y, (if L 14 = true then z else o3)) rfl; simpa [hL] using this
                        · exact H.m.set (by have := HBW.out; omega) _
                        · exact H.r.put (b := W.heap.size + 3) H.fr.o (by decide)
                        · exact (Below.heap_setCell _ _ _ _ (by show b ≠ W.heap.size + 3; have := HX1.out; omega)).trans H.bx
                        · exact fun hl => H.h0 (by simpa using hl)
                        · exact fun hl => H.h1 (by simpa using hl)
                        · exact fun hl => H.h2 (by simpa using hl)
                        · exact fun hl => H.h3 (by simpa using hl)
                        · exact fun hl => H.h4 (by simpa using hl)
                        · exact fun _ => rfl
                        · exact fun hl => H.h6 (by simpa using hl)
                        · exact fun hl => H.h7 (by simpa using hl)
                        · exact fun hl => H.h8 (by simpa using hl)
                        · exact fun hl => H.h9 (by simpa using hl)
                        · exact fun hl => H.h10 (by simpa using hl)
                        · exact fun hl => H.h11 (by simpa using hl)
                        · exact fun hl => H.h13 (by simpa using hl)
                        · exact fun _ => by simp [y1]
                        · exact fun hl => by have := H.o14 (by simpa using hl); simp [this]
                      · -- operation 13
                        go_simp
                        refine Or.inl ?_
                        refine hK _ _ ⟨v56, v57, v58, v59, v60, v61, v62, v63, v64, v65, v66, v67, _, rfl, ⟨?_, ?_, ?_, ?_, ?_, ?_, ?_, ?_, ?_, ?_, ?_, ?_, ?_, ?_, ?_, ?_, ?_, ?_, ?_⟩⟩
                        · exact by simpa using H.fr
                        · exact H.m
                        · exact H.r
                        · exact H.bx
                        · exact fun hl => H.h0 (by simpa using hl)
                        · exact fun hl => H.h1 (by simpa using hl)
                        · exact fun hl => H.h2 (by simpa using hl)
                        · exact fun hl => H.h3 (by simpa using hl)
                        · exact fun hl => H.h4 (by simpa using hl)
                        · exact fun hl => H.h5 (by simpa using hl)
                        · exact fun hl => H.h6 (by simpa using hl)
                        · exact fun hl => H.h7 (by simpa using hl)
                        · exact fun hl => H.h8 (by simpa using hl)
                        · exact fun hl => H.h9 (by simpa using hl)
                        · exact fun hl => H.h10 (by simpa using hl)
                        · exact fun hl => H.h11 (by simpa using hl)
                        · exact fun _ => rfl
                        · exact fun hl => by have := H.o12 (by simpa using hl); simp [this]
                        · exact fun hl => by have := H.o14 (by simpa using hl); simp [this]
                      · -- operation 14
                        have y13 : L 13 = true := by simp [hp]
                        obtain rfl := H.h13 y13
                        have y10 : L 10 = true := by simp [hp]
                        obtain rfl := H.h10 y10
                        have y7 : L 7 = true := by simp [hp]
                        obtain ⟨_, _, _, c1, c2, _, f1, f2⟩ := H.fr.facts
                        go_simp
                        refine Or.inl ?_
                        refine hK _ _ ⟨v56, v57, v58, v59, v60, v61, v62, v63, v64, v65, _, v67, _, rfl, ⟨?_, ?_, ?_, ?_, ?_, ?_, ?_, ?_, ?_, ?_, ?_, ?_, ?_, ?_, ?_, ?_, ?_, ?_, ?_⟩⟩
                        · exact by have := H.fr.put 2 z (x, (if L 12 = true then mx o2 y else o2), z) rfl; simpa [hL] using this
                        · exact H.m.set (by have := HBW.out; omega) _
                        · exact H.r.put (b := W.heap.size + 3) H.fr.o (by decide)
                        · exact (Below.heap_setCell _ _ _ _ (by show b ≠ W.heap.size + 3; have := HX1.out; omega)).trans H.bx
                        · exact fun hl => H.h0 (by simpa using hl)
                        · exact fun hl => H.h1 (by simpa using hl)
                        · exact fun hl => H.h2 (by simpa using hl)
                        · exact fun hl => H.h3 (by simpa using hl)
                        · exact fun hl => H.h4 (by simpa using hl)
                        · exact fun hl => H.h5 (by simpa using hl)
                        · exact fun hl => H.h6 (by simpa using hl)
                        · exact fun hl => H.h7 (by simpa using hl)
                        · exact fun hl => H.h8 (by simpa using hl)
                        · exact fun hl => H.h9 (by simpa using hl)
                        · exact fun _ => rfl
                        · exact fun hl => H.h11 (by simpa using hl)
                        · exact fun hl => H.h13 (by simpa using hl)
                        · exact fun hl => by have := H.o12 (by simpa using hl); simp [this]
                        · exact fun _ => by simp [y7]
                    case fin2 =>
                      rintro L a Wd hall ⟨v56, v57, v58, v59, v60, v61, v62, v63, v64, v65, v66, v67, v68, rfl, H⟩
                      have hF := H.fr
                      rw [if_pos (hall 12 (by decide)), if_pos (hall 14 (by decide))] at hF
                      have HFd := Aside0.mk hF
                      have HMd := Aside0.mk H.m
                      have HRd := Aside0.mk H.r
                      have HEd := Aside0.mk (hE.kept _ _ B M HEnv.out HM.out hF.g)
                      clear H hall hF hy hy' hzz hzz'
                      go_wp2
                      go_roundg k1
                      case measure => omega
                      case rel => exact ⟨i + 1, (x, mx o2 y, z), M3, rfl, ⟨by have := HI.out; omega⟩, ⟨by have := HK.out; omega⟩, ⟨by rw [← HUP.out]; exact HRN3.out⟩, HFd, HMd, HEd, HRd⟩
                  · have e2' : decide (x < o1) = false := decide_eq_false e2
                    have E1 := Aside0.mk e1
                    have E2 := Aside0.mk e2
                    clear e1 e2
                    go_wp2
                    have e1 := E1.out
                    have e2 := E2.out
                    have FD_ := HFc
                    have MD_ := HMc
                    have RD_ := HRc
                    have BD_ := HX
                    obtain ⟨y, hy⟩ : ∃ y : Int, wrap64 (n2 + 1) = y := ⟨_, rfl⟩
                    obtain ⟨z, hzz⟩ : ∃ z : Int, wrap64 (o3 + n3) = z := ⟨_, rfl⟩
                    have hy' : IntKind.i64.wrap (n2 + 1) = y := (i64_w _).trans hy
                    have hzz' : IntKind.i64.wrap (o3 + n3) = z := (i64_w _).trans hzz
                    have HUP := Aside0.mk (show plUpd (o1, o2, o3) (n1, n2, n3) = (o1, mx o2 y, z) from by simp only [plUpd, hx, hy, hzz]; rw [if_neg (by omega)])
                    clear hx
                    refine region_inv (J := fun L a Wd => ∃ v56 v57 v58 v59 v60 v61 v62 v63 v64 v65 v66 v67 v68 : Value, a = { tmps := #[Value.agg #[Value.func (Fn.func 67) #[] #[.pointer (some ⟨Bg, 0, none⟩)], Value.map (some B)], Value.string s, Value.pointer (some { block := W.heap.size, off := 0 }), undef, Value.pointer (some { block := W.heap.size + 1, off := 0 }), Value.pointer (some { block := W.heap.size + 1 + 1, off := 0 }), Value.bool false, Value.pointer (some { block := W.heap.size + 1 + 1 + 1, off := 0 }), undef, Value.int IntKind.i64 m, Value.pointer (some { block := b, off := 0 }), Value.tuple #[Value.agg #[Value.int IntKind.i64 0, Value.int IntKind.i64 0, Value.int IntKind.i64 0], Value.bool false], Value.pointer (some { block := W.heap.size, off := 1 }), Value.map (some B), Value.string s, Value.tuple #[Value.agg #[Value.int IntKind.i64 0, Value.int IntKind.i64 0, Value.int IntKind.i64 0], Value.bool false], Value.agg #[Value.int IntKind.i64 0, Value.int IntKind.i64 0, Value.int IntKind.i64 0], Value.bool false, Value.bool false, undef, Value.agg #[Value.int IntKind.i64 (-1), Value.int IntKind.i64 (-1), Value.int IntKind.i64 0], Value.pointer (some { block := W.heap.size, off := 0 }), Value.func (Fn.func 67) #[] #[.pointer (some ⟨Bg, 0, none⟩)], Value.string s, Value.bool false, undef, Value.string s, Value.slice (some { block := g, off := 0 }) ms.length c6, Value.int IntKind.i64 (ms.length : Int), Value.int IntKind.i64 i, Value.bool true, Value.pointer (some { block := g, off := i.toNat }), Value.int IntKind.i64 m, v33, v34, v35, v36, Value.agg #[Value.int IntKind.i64 n1, Value.int IntKind.i64 n2, Value.int IntKind.i64 n3], Value.pointer (some { block := b, off := 2 }), Value.int IntKind.i64 n3, Value.bool false, Value.pointer (some { block := W.heap.size + 1 + 1 + 1, off := 0 }), Value.int IntKind.i64 o1, Value.bool false, Value.bool false, Value.pointer (some { block := b, off := 0 }), Value.int IntKind.i64 n1, Value.int IntKind.i64 x, Value.pointer (some { block := W.heap.size + 1 + 1 + 1, off := 0 }), Value.int IntKind.i64 o1, Value.bool false, Value.bool false, u52, u53, u54, u55, v56, v57, v58, v59, v60, v61, v62, v63, v64, v65, v66, v67, v68, u69, undef, undef, undef, undef, undef], defers := [] } ∧ plR2 W B (.func (.func 67) #[] #[.pointer (some ⟨Bg, 0, none⟩)]) b ms (.slice (some ⟨g, 0, none⟩) ms.length c6) o1 o2 o3 n1 n2 n3 y z M3 L v56 v57 v58 v59 v60 v61 v62 v63 v64 v65 v66 v67 v68 Wd) (by kernel_rfl) (by kernel_rfl) ?start2 ?step2 ?fin2
                    case start2 => exact ⟨_, _, _, _, _, _, _, _, _, _, _, _, _, rfl, ⟨by simpa using FD_.out.kept HBW.out (plGrown (below_drew1 (Below.refl _ _)) _), MD_.out.below (below_drew1 (Below.refl _ _)), RD_.out.kept (plGrown (below_drew1 (Below.refl _ _)) _) HBW.out, BD_.out, nofun, nofun, nofun, nofun, nofun, nofun, nofun, nofun, nofun, nofun, nofun, nofun, nofun, nofun, nofun⟩⟩
                    case step2 =>
                      rintro L a Wd j ob ho hL hp ⟨v56, v57, v58, v59, v60, v61, v62, v63, v64, v65, v66, v67, v68, rfl, H⟩
                      have hj : j < 15 := (Array.getElem?_eq_some_iff.1 ho).1
                      rcases (show j = 0 ∨ j = 1 ∨ j = 2 ∨ j = 3 ∨ j = 4 ∨ j = 5 ∨ j = 6 ∨ j = 7 ∨ j = 8 ∨ j = 9 ∨ j = 10 ∨ j = 11 ∨ j = 12 ∨ j = 13 ∨ j = 14 by omega) with rfl | rfl | rfl | rfl | rfl | rfl | rfl | rfl | rfl | rfl | rfl | rfl | rfl | rfl | rfl
                      all_goals (obtain rfl : _ = ob := Option.some.inj (show some _ = some ob from ho); simp [Region.binds] at hp; refine plOp_of rfl (fun K hK => ?_))
                      · -- operation 0
                        go_simp
                        refine Or.inl ?_
                        refine hK _ _ ⟨_, v57, v58, v59, v60, v61, v62, v63, v64, v65, v66, v67, v68, rfl, ⟨?_, ?_, ?_, ?_, ?_, ?_, ?_, ?_, ?_, ?_, ?_, ?_, ?_, ?_, ?_, ?_, ?_, ?_, ?_⟩⟩
                        · exact by simpa using H.fr
                        · exact H.m
                        · exact H.r
                        · exact H.bx
                        · exact fun _ => rfl
                        · exact fun hl => H.h1 (by simpa using hl)
                        · exact fun hl => H.h2 (by simpa using hl)
                        · exact fun hl => H.h3 (by simpa using hl)
                        · exact fun hl => H.h4 (by simpa using hl)
                        · exact fun hl => H.h5 (by simpa using hl)
                        · exact fun hl => H.h6 (by simpa using hl)
                        · exact fun hl => H.h7 (by simpa using hl)
                        · exact fun hl => H.h8 (by simpa using hl)
                        · exact fun hl => H.h9 (by simpa using hl)
                        · exact fun hl => H.h10 (by simpa using hl)
                        · exact fun hl => H.h11 (by simpa using hl)
                        · exact fun hl => H.h13 (by simpa using hl)
                        · exact fun hl => by have := H.o12 (by simpa using hl); simp [this]
                        · exact fun hl => by have := H.o14 (by simpa using hl); simp [this]
                      · -- operation 1
                        have y0 : L 0 = true := by simp [hp]
                        obtain rfl := H.h0 y0
                        have n12 : L 12 = false := by cases e : L 12 with | false => rfl | true => exact absurd (H.o12 e) (by simp [hL])
                        have cf := H.fr.facts
                        rw [n12] at cf
                        obtain ⟨_, _, _, c1, _, _, _, _⟩ := cf
                        simp only [Bool.false_eq_true, if_false] at c1
                        go_simp
                        refine Or.inl ?_
                        refine hK _ _ ⟨_, _, v58, v59, v60, v61, v62, v63, v64, v65, v66, v67, v68, rfl, ⟨?_, ?_, ?_, ?_, ?_, ?_, ?_, ?_, ?_, ?_, ?_, ?_, ?_, ?_, ?_, ?_, ?_, ?_, ?_⟩⟩
                        · exact by simpa using H.fr
                        · exact H.m
                        · exact H.r
                        · exact H.bx
                        · exact fun hl => H.h0 (by simpa using hl)
                        · exact fun _ => rfl
                        · exact fun hl => H.h2 (by simpa using hl)
                        · exact fun hl => H.h3 (by simpa using hl)
                        · exact fun hl => H.h4 (by simpa using hl)
                        · exact fun hl => H.h5 (by simpa using hl)
                        · exact fun hl => H.h6 (by simpa using hl)
                        · exact fun hl => H.h7 (by simpa using hl)
                        · exact fun hl => H.h8 (by simpa using hl)
                        · exact fun hl => H.h9 (by simpa using hl)
                        · exact fun hl => H.h10 (by simpa using hl)
                        · exact fun hl => H.h11 (by simpa using hl)
                        · exact fun hl => H.h13 (by simpa using hl)
                        · exact fun hl => by have := H.o12 (by simpa using hl); simp [this]
                        · exact fun hl => by have := H.o14 (by simpa using hl); simp [this]
                      · -- operation 2
                        go_simp
                        refine Or.inl ?_
                        refine hK _ _ ⟨v56, v57, _, v59, v60, v61, v62, v63, v64, v65, v66, v67, v68, rfl, ⟨?_, ?_, ?_, ?_, ?_, ?_, ?_, ?_, ?_, ?_, ?_, ?_, ?_, ?_, ?_, ?_, ?_, ?_, ?_⟩⟩
                        · exact by simpa using H.fr
                        · exact H.m
                        · exact H.r
                        · exact H.bx
                        · exact fun hl => H.h0 (by simpa using hl)
                        · exact fun hl => H.h1 (by simpa using hl)
                        · exact fun _ => rfl
                        · exact fun hl => H.h3 (by simpa using hl)
                        · exact fun hl => H.h4 (by simpa using hl)
                        · exact fun hl => H.h5 (by simpa using hl)
                        · exact fun hl => H.h6 (by simpa using hl)
                        · exact fun hl => H.h7 (by simpa using hl)
                        · exact fun hl => H.h8 (by simpa using hl)
                        · exact fun hl => H.h9 (by simpa using hl)
                        · exact fun hl => H.h10 (by simpa using hl)
                        · exact fun hl => H.h11 (by simpa using hl)
                        · exact fun hl => H.h13 (by simpa using hl)
                        · exact fun hl => by have := H.o12 (by simpa using hl); simp [this]
                        · exact fun hl => by have := H.o14 (by simpa using hl); simp [this]
                      · -- operation 3
                        have y2 : L 2 = true := by simp [hp]
                        obtain rfl := H.h2 y2
                        have c1 : Wd.cell? ⟨b, 1, none⟩ = some (.int .i64 n2) := by rw [blk_cell H.bx]; rfl
                        go_simp
                        refine Or.inl ?_
                        refine hK _ _ ⟨v56, v57, _, _, v60, v61, v62, v63, v64, v65, v66, v67, v68, rfl, ⟨?_, ?_, ?_, ?_, ?_, ?_, ?_, ?_, ?_, ?_, ?_, ?_, ?_, ?_, ?_, ?_, ?_, ?_, ?_⟩⟩
                        · exact by simpa using H.fr
                        · exact H.m
                        · exact H.r
                        · exact H.bx
                        · exact fun hl => H.h0 (by simpa using hl)
                        · exact fun hl => H.h1 (by simpa using hl)
                        · exact fun hl => H.h2 (by simpa using hl)
                        · exact fun _ => rfl
                        · exact fun hl => H.h4 (by simpa using hl)
                        · exact fun hl => H.h5 (by simpa using hl)
                        · exact fun hl => H.h6 (by simpa using hl)
                        · exact fun hl => H.h7 (by simpa using hl)
                        · exact fun hl => H.h8 (by simpa using hl)
                        · exact fun hl => H.h9 (by simpa using hl)
                        · exact fun hl => H.h10 (by simpa using hl)
                        · exact fun hl => H.h11 (by simpa using hl)
                        · exact fun hl => H.h13 (by simpa using hl)
                        · exact fun hl => by have := H.o12 (by simpa using hl); simp [this]
                        · exact fun hl => by have := H.o14 (by simpa using hl); simp [this]
                      · -- operation 4
                        have y3 : L 3 = true := by simp [hp]
                        obtain rfl := H.h3 y3
                        go_simp
                        refine Or.inl ?_
                        refine hK _ _ ⟨v56, v57, v58, _, _, v61, v62, v63, v64, v65, v66, v67, v68, rfl, ⟨?_, ?_, ?_, ?_, ?_, ?_, ?_, ?_, ?_, ?_, ?_, ?_, ?_, ?_, ?_, ?_, ?_, ?_, ?_⟩⟩
                        · exact by simpa using H.fr
                        · exact H.m
                        · exact H.r
                        · exact H.bx
                        · exact fun hl => H.h0 (by simpa using hl)
                        · exact fun hl => H.h1 (by simpa using hl)
                        · exact fun hl => H.h2 (by simpa using hl)
                        · exact fun hl => H.h3 (by simpa using hl)
                        · exact fun _ => rfl
                        · exact fun hl => H.h5 (by simpa using hl)
                        · exact fun hl => H.h6 (by simpa using hl)
                        · exact fun hl => H.h7 (by simpa using hl)
                        · exact fun hl => H.h8 (by simpa using hl)
                        · exact fun hl => H.h9 (by simpa using hl)
                        · exact fun hl => H.h10 (by simpa using hl)
                        · exact fun hl => H.h11 (by simpa using hl)
                        · exact fun hl => H.h13 (by simpa using hl)
                        · exact fun hl => by have := H.o12 (by simpa using hl); simp [this]
                        · exact fun hl => by have := H.o14 (by simpa using hl); simp [this]
                      · -- operation 5
                        have y1 : L 1 = true := by simp [hp]
                        obtain rfl := H.h1 y1
                        have y4 : L 4 = true := by simp [hp]
                        obtain rfl := H.h4 y4
                        go_simp
                        refine Or.inl ?_
                        refine hK _ _ ⟨v56, _, v58, v59, _, _, v62, v63, v64, v65, v66, v67, v68, rfl, ⟨?_, ?_, ?_, ?_, ?_, ?_, ?_, ?_, ?_, ?_, ?_, ?_, ?_, ?_, ?_, ?_, ?_, ?_, ?_⟩⟩
                        · exact by simpa using H.fr
                        · exact H.m
                        · exact H.r
                        · exact H.bx
                        · exact fun hl => H.h0 (by simpa using hl)
                        · exact fun hl => H.h1 (by simpa using hl)
                        · exact fun hl => H.h2 (by simpa using hl)
                        · exact fun hl => H.h3 (by simpa using hl)
                        · exact fun hl => H.h4 (by simpa using hl)
                        · exact fun _ => rfl
                        · exact fun hl => H.h6 (by simpa using hl)
                        · exact fun hl => H.h7 (by simpa using hl)
                        · exact fun hl => H.h8 (by simpa using hl)
                        · exact fun hl => H.h9 (by simpa using hl)
                        · exact fun hl => H.h10 (by simpa using hl)
                        · exact fun hl => H.h11 (by simpa using hl)
                        · exact fun hl => H.h13 (by simpa using hl)
                        · exact fun hl => by have := H.o12 (by simpa using hl); simp [this]
                        · exact fun hl => by have := H.o14 (by simpa using hl); simp [this]
                      · -- operation 6
                        go_simp
                        refine Or.inl ?_
                        refine hK _ _ ⟨v56, v57, v58, v59, v60, v61, _, v63, v64, v65, v66, v67, v68, rfl, ⟨?_, ?_, ?_, ?_, ?_, ?_, ?_, ?_, ?_, ?_, ?_, ?_, ?_, ?_, ?_, ?_, ?_, ?_, ?_⟩⟩
                        · exact by simpa using H.fr
                        · exact H.m
                        · exact H.r
                        · exact H.bx
                        · exact fun hl => H.h0 (by simpa using hl)
                        · exact fun hl => H.h1 (by simpa using hl)
                        · exact fun hl => H.h2 (by simpa using hl)
                        · exact fun hl => H.h3 (by simpa using hl)
                        · exact fun hl => H.h4 (by simpa using hl)
                        · exact fun hl => H.h5 (by simpa using hl)
                        · exact fun _ => rfl
                        · exact fun hl => H.h7 (by simpa using hl)
                        · exact fun hl => H.h8 (by simpa using hl)
                        · exact fun hl => H.h9 (by simpa using hl)
                        · exact fun hl => H.h10 (by simpa using hl)
                        · exact fun hl => H.h11 (by simpa using hl)
                        · exact fun hl => H.h13 (by simpa using hl)
                        · exact fun hl => by have := H.o12 (by simpa using hl); simp [this]
                        · exact fun hl => by have := H.o14 (by simpa using hl); simp [this]
                      · -- operation 7
                        have y6 : L 6 = true := by simp [hp]
                        obtain rfl := H.h6 y6
                        have n14 : L 14 = false := by cases e : L 14 with | false => rfl | true => exact absurd (H.o14 e) (by simp [hL])
                        have cf := H.fr.facts
                        rw [n14] at cf
                        obtain ⟨_, _, _, _, c2, _, _, _⟩ := cf
                        simp only [Bool.false_eq_true, if_false] at c2
                        go_simp
                        refine Or.inl ?_
                        refine hK _ _ ⟨v56, v57, v58, v59, v60, v61, _, _, v64, v65, v66, v67, v68, rfl, ⟨?_, ?_, ?_, ?_, ?_, ?_, ?_, ?_, ?_, ?_, ?_, ?_, ?_, ?_, ?_, ?_, ?_, ?_, ?_⟩⟩
                        · exact by simpa using H.fr
                        · exact H.m
                        · exact H.r
                        · exact H.bx
                        · exact fun hl => H.h0 (by simpa using hl)
                        · exact fun hl => H.h1 (by simpa using hl)
                        · exact fun hl => H.h2 (by simpa using hl)
                        · exact fun hl => H.h3 (by simpa using hl)
                        · exact fun hl => H.h4 (by simpa using hl)
                        · exact fun hl => H.h5 (by simpa using hl)
                        · exact fun hl => H.h6 (by simpa using hl)
                        · exact fun _ => rfl
                        · exact fun hl => H.h8 (by simpa using hl)
                        · exact fun hl => H.h9 (by simpa using hl)
                        · exact fun hl => H.h10 (by simpa using hl)
                        · exact fun hl => H.h11 (by simpa using hl)
                        · exact fun hl => H.h13 (by simpa using hl)
                        · exact fun hl => by have := H.o12 (by simpa using hl); simp [this]
                        · exact fun hl => by have := H.o14 (by simpa using hl); simp [this]
                      · -- operation 8
                        go_simp
                        refine Or.inl ?_
                        refine hK _ _ ⟨v56, v57, v58, v59, v60, v61, v62, v63, _, v65, v66, v67, v68, rfl, ⟨?_, ?_, ?_, ?_, ?_, ?_, ?_, ?_, ?_, ?_, ?_, ?_, ?_, ?_, ?_, ?_, ?_, ?_, ?_⟩⟩
                        · exact by simpa using H.fr
                        · exact H.m
                        · exact H.r
                        · exact H.bx
                        · exact fun hl => H.h0 (by simpa using hl)
                        · exact fun hl => H.h1 (by simpa using hl)
                        · exact fun hl => H.h2 (by simpa using hl)
                        · exact fun hl => H.h3 (by simpa using hl)
                        · exact fun hl => H.h4 (by simpa using hl)
                        · exact fun hl => H.h5 (by simpa using hl)
                        · exact fun hl => H.h6 (by simpa using hl)
                        · exact fun hl => H.h7 (by simpa using hl)
                        · exact fun _ => rfl
                        · exact fun hl => H.h9 (by simpa using hl)
                        · exact fun hl => H.h10 (by simpa using hl)
                        · exact fun hl => H.h11 (by simpa using hl)
                        · exact fun hl => H.h13 (by simpa using hl)
                        · exact fun hl => by have := H.o12 (by simpa using hl); simp [this]
                        · exact fun hl => by have := H.o14 (by simpa using hl); simp [this]
                      · -- operation 9
                        have y8 : L 8 = true := by simp [hp]
                        obtain rfl := H.h8 y8
                        have c2 : Wd.cell? ⟨b, 2, none⟩ = some (.int .i64 n3) := by rw [blk_cell H.bx]; rfl
                        go_simp
                        refine Or.inl ?_
                        refine hK _ _ ⟨v56, v57, v58, v59, v60, v61, v62, v63, _, _, v66, v67, v68, rfl, ⟨?_, ?_, ?_, ?_, ?_, ?_, ?_, ?_, ?_, ?_, ?_, ?_, ?_, ?_, ?_, ?_, ?_, ?_, ?_⟩⟩
                        · exact by simpa using H.fr
                        · exact H.m
                        · exact H.r
                        · exact H.bx
                        · exact fun hl => H.h0 (by simpa using hl)
                        · exact fun hl => H.h1 (by simpa using hl)
                        · exact fun hl => H.h2 (by simpa using hl)
                        · exact fun hl => H.h3 (by simpa using hl)
                        · exact fun hl => H.h4 (by simpa using hl)
                        · exact fun hl => H.h5 (by simpa using hl)
                        · exact fun hl => H.h6 (by simpa using hl)
                        · exact fun hl => H.h7 (by simpa using hl)
                        · exact fun hl => H.h8 (by simpa using hl)
                        · exact fun _ => rfl
                        · exact fun hl => H.h10 (by simpa using hl)
                        · exact fun hl => H.h11 (by simpa using hl)
                        · exact fun hl => H.h13 (by simpa using hl)
                        · exact fun hl => by have := H.o12 (by simpa using hl); simp [this]
                        · exact fun hl => by have := H.o14 (by simpa using hl); simp [this]
                      · -- operation 10
                        have y7 : L 7 = true := by simp [hp]
                        obtain rfl := H.h7 y7
                        have y9 : L 9 = true := by simp [hp]
                        obtain rfl := H.h9 y9
                        go_simp
                        refine Or.inl ?_
                        refine hK _ _ ⟨v56, v57, v58, v59, v60, v61, v62, _, v64, _, _, v67, v68, rfl, ⟨?_, ?_, ?_, ?_, ?_, ?_, ?_, ?_, ?_, ?_, ?_, ?_, ?_, ?_, ?_, ?_, ?_, ?_, ?_⟩⟩
                        · exact by simpa using H.fr
                        · exact H.m
                        · exact H.r
                        · exact H.bx
                        · exact fun hl => H.h0 (by simpa using hl)
                        · exact fun hl => H.h1 (by simpa using hl)
                        · exact fun hl => H.h2 (by simpa using hl)
                        · exact fun hl => H.h3 (by simpa using hl)
                        · exact fun hl => H.h4 (by simpa using hl)
                        · exact fun hl => H.h5 (by simpa using hl)
                        · exact fun hl => H.h6 (by simpa using hl)
                        · exact fun hl => H.h7 (by simpa using hl)
                        · exact fun hl => H.h8 (by simpa using hl)
                        · exact fun hl => H.h9 (by simpa using hl)
                        · exact fun _ => rfl
                        · exact fun hl => H.h11 (by simpa using hl)
                        · exact fun hl => H.h13 (by simpa using hl)
                        · exact fun hl => by have := H.o12 (by simpa using hl); simp [this]
                        · exact fun hl => by have := H.o14 (by simpa using hl); simp [this]
                      · -- operation 11
                        go_simp
                        refine Or.inl ?_
                        refine hK _ _ ⟨v56, v57, v58, v59, v60, v61, v62, v63, v64, v65, v66, _, v68, rfl, ⟨?_, ?_, ?_, ?_, ?_, ?_, ?_, ?_, ?_, ?_, ?_, ?_, ?_, ?_, ?_, ?_, ?_, ?_, ?_⟩⟩
                        · exact by simpa using H.fr
                        · exact H.m
                        · exact H.r
                        · exact H.bx
                        · exact fun hl => H.h0 (by simpa using hl)
                        · exact fun hl => H.h1 (by simpa using hl)
                        · exact fun hl => H.h2 (by simpa using hl)
                        · exact fun hl => H.h3 (by simpa using hl)
                        · exact fun hl => H.h4 (by simpa using hl)
                        · exact fun hl => H.h5 (by simpa using hl)
                        · exact fun hl => H.h6 (by simpa using hl)
                        · exact fun hl => H.h7 (by simpa using hl)
                        · exact fun hl => H.h8 (by simpa using hl)
                        · exact fun hl => H.h9 (by simpa using hl)
                        · exact fun hl => H.h10 (by simpa using hl)
                        · exact fun _ => rfl
                        · exact fun hl => H.h13 (by simpa using hl)
                        · exact fun hl => by have := H.o12 (by simpa using hl); simp [this]
                        · exact fun hl => by have := H.o14 (by simpa using hl); simp [this]
                      · -- operation 12
                        have y11 : L 11 = true := by simp [hp]
                        obtain rfl := H.h11 y11
                        have y5 : L 5 = true := by simp [hp]
                        obtain rfl := H.h5 y5
                        have y1 : L 1 = true := by simp [hp]
                        obtain ⟨_, _, _, c1, c2, _, f1, f2⟩ := H.fr.facts
                        go_simp
                        refine Or.inl ?_
                        refine hK _ _ ⟨v56, v57, v58, v59, v60, _, v62, v63, v64, v65, v66, _, v68, rfl, ⟨?_, ?_, ?_, ?_, ?_, ?_, ?_, ?_, ?_, ?_, ?_, ?_, ?_, ?_, ?_, ?_, ?_, ?_, ?_⟩⟩
                        · exact by have := H.fr.put 1 (mx o2 y) (o1, mx o2 y, (if L 14 = true then z else o3)) rfl; simpa [hL] using this
                        · exact H.m.set (by have := HBW.out; omega) _
                        · exact H.r.put (b := W.heap.size + 3) H.fr.o (by decide)
                        · exact (Below.heap_setCell _ _ _ _ (by show b ≠ W.heap.size + 3; have := HX1.out; omega)).trans H.bx
                        · exact fun hl => H.h0 (by simpa using hl)
                        · exact fun hl => H.h1 (by simpa using hl)
                        · exact fun hl => H.h2 (by simpa using hl)
                        · exact fun hl => H.h3 (by simpa using hl)
                        · exact fun hl => H.h4 (by simpa using hl)
                        · exact fun _ => rfl
                        · exact fun hl => H.h6 (by simpa using hl)
                        · exact fun hl => H.h7 (by simpa using hl)
                        · exact fun hl => H.h8 (by simpa using hl)
                        · exact fun hl => H.h9 (by simpa using hl)
                        · exact fun hl => H.h10 (by simpa using hl)
                        · exact fun hl => H.h11 (by simpa using hl)
                        · exact fun hl => H.h13 (by simpa using hl)
                        · exact fun _ => by simp [y1]
                        · exact fun hl => by have := H.o14 (by simpa using hl); simp [this]
                      · -- operation 13
                        go_simp
                        refine Or.inl ?_
                        refine hK _ _ ⟨v56, v57, v58, v59, v60, v61, v62, v63, v64, v65, v66, v67, _, rfl, ⟨?_, ?_, ?_, ?_, ?_, ?_, ?_, ?_, ?_, ?_, ?_, ?_, ?_, ?_, ?_, ?_, ?_, ?_, ?_⟩⟩
                        · exact by simpa using H.fr
                        · exact H.m
                        · exact H.r
                        · exact H.bx
                        · exact fun hl => H.h0 (by simpa using hl)
                        · exact fun hl => H.h1 (by simpa using hl)
                        · exact fun hl => H.h2 (by simpa using hl)
                        · exact fun hl => H.h3 (by simpa using hl)
                        · exact fun hl => H.h4 (by simpa using hl)
                        · exact fun hl => H.h5 (by simpa using hl)
                        · exact fun hl => H.h6 (by simpa using hl)
                        · exact fun hl => H.h7 (by simpa using hl)
                        · exact fun hl => H.h8 (by simpa using hl)
                        · exact fun hl => H.h9 (by simpa using hl)
                        · exact fun hl => H.h10 (by simpa using hl)
                        · exact fun hl => H.h11 (by simpa using hl)
                        · exact fun _ => rfl
                        · exact fun hl => by have := H.o12 (by simpa using hl); simp [this]
                        · exact fun hl => by have := H.o14 (by simpa using hl); simp [this]
                      · -- operation 14
                        have y13 : L 13 = true := by simp [hp]
                        obtain rfl := H.h13 y13
                        have y10 : L 10 = true := by simp [hp]
                        obtain rfl := H.h10 y10
                        have y7 : L 7 = true := by simp [hp]
                        obtain ⟨_, _, _, c1, c2, _, f1, f2⟩ := H.fr.facts
                        go_simp
                        refine Or.inl ?_
                        refine hK _ _ ⟨v56, v57, v58, v59, v60, v61, v62, v63, v64, v65, _, v67, _, rfl, ⟨?_, ?_, ?_, ?_, ?_, ?_, ?_, ?_, ?_, ?_, ?_, ?_, ?_, ?_, ?_, ?_, ?_, ?_, ?_⟩⟩
                        · exact by have := H.fr.put 2 z (o1, (if L 12 = true then mx o2 y else o2), z) rfl; simpa [hL] using this
                        · exact H.m.set (by have := HBW.out; omega) _
                        · exact H.r.put (b := W.heap.size + 3) H.fr.o (by decide)
                        · exact (Below.heap_setCell _ _ _ _ (by show b ≠ W.heap.size + 3; have := HX1.out; omega)).trans H.bx
                        · exact fun hl => H.h0 (by simpa using hl)
                        · exact fun hl => H.h1 (by simpa using hl)
                        · exact fun hl => H.h2 (by simpa using hl)
                        · exact fun hl => H.h3 (by simpa using hl)
                        · exact fun hl => H.h4 (by simpa using hl)
                        · exact fun hl => H.h5 (by simpa using hl)
                        · exact fun hl => H.h6 (by simpa using hl)
                        · exact fun hl => H.h7 (by simpa using hl)
                        · exact fun hl => H.h8 (by simpa using hl)
                        · exact fun hl => H.h9 (by simpa using hl)
                        · exact fun _ => rfl
                        · exact fun hl => H.h11 (by simpa using hl)
                        · exact fun hl => H.h13 (by simpa using hl)
                        · exact fun hl => by have := H.o12 (by simpa using hl); simp [this]
                        · exact fun _ => by simp [y7]
                    case fin2 =>
                      rintro L a Wd hall ⟨v56, v57, v58, v59, v60, v61, v62, v63, v64, v65, v66, v67, v68, rfl, H⟩
                      have hF := H.fr
                      rw [if_pos (hall 12 (by decide)), if_pos (hall 14 (by decide))] at hF
                      have HFd := Aside0.mk hF
                      have HMd := Aside0.mk H.m
                      have HRd := Aside0.mk H.r
                      have HEd := Aside0.mk (hE.kept _ _ B M HEnv.out HM.out hF.g)
                      clear H hall hF hy hy' hzz hzz'
                      go_wp2
                      go_roundg k1
                      case measure => omega
                      case rel => exact ⟨i + 1, (o1, mx o2 y, z), M3, rfl, ⟨by have := HI.out; omega⟩, ⟨by have := HK.out; omega⟩, ⟨by rw [← HUP.out]; exact HRN3.out⟩, HFd, HMd, HEd, HRd⟩
      | true =>
        go_wp2_with (first | (go_at_call 67; (refine CALL_.out.mono ?_); rintro e w5 ⟨rfl, hb5⟩; have fr5 := (plFr.start W B (.func (.func 67) #[] #[.pointer (some ⟨Bg, 0, none⟩)])).kept HM.out.lt (plGrown hb5 (some B)); have HF5 := Aside0.mk fr5; have HM5 := Aside0.mk (HM4.out.below hb5); obtain ⟨_, _, c0, c1, c2, f0, f1, f2⟩ := fr5.facts; clear hb5 fr5) | (go_at_call 62; (refine (impl_hops.calls k s ms _ HMS.out).mono ?_); rintro e w6 ⟨v6, rfl, hR, hb6⟩; have HF6 := Aside0.mk ((((HF5.out.put 0 0 (0, -1, 0) rfl).put 1 0 (0, 0, 0) rfl).put 2 1 (0, 0, 1) rfl).kept HM.out.lt (plGrown hb6 (some B))); have HM6 := Aside0.mk ((((HM5.out.set (by have := HM.out.lt; omega) _).set (by have := HM.out.lt; omega) _).set (by have := HM.out.lt; omega) _).below hb6); have hrow := (plRow.ofR hR).lower (b' := W.heap.size) (by have := HF5.out.n; simp [World.setCell]; omega); obtain ⟨A6, c6, rfl⟩ := hrow.form; have HRW6 := Aside0.mk hrow; have HEnv6 := Aside0.mk (hE.kept _ _ B M HEnv.out HM.out HF6.out.g); clear hrow hR hb6))
        go_loopg [29] ms.length (fun kq v29 w' => ∃ (i : Int) (o : plF) (M2 : plM), v29 = .int .i64 i ∧ Aside0 (i = (ms.length : Int) - (kq : Int)) ∧ Aside0 (kq ≤ ms.length) ∧ Aside0 (plRnd (plOf E k d) s (ms.drop (ms.length - kq)) o M2 = some (out, M1)) ∧ Aside0 (plFr W B (.func (.func 67) #[] #[.pointer (some ⟨Bg, 0, none⟩)]) o w') ∧ Aside0 (plMem w' B M2) ∧ Aside0 (Env w') ∧ Aside0 (plRow w' W.heap.size (.slice A6 ms.length c6) ms))
        case atStart => exact ⟨0, (0, 0, 1), M, rfl, ⟨by omega⟩, ⟨Nat.le_refl _⟩, ⟨by rw [Nat.sub_self]; exact HR.out⟩, HF6, HM6, HEnv6, HRW6⟩
        case round =>
          obtain ⟨i, o, M2, rfl, HI, HK, HRN, HFo, HMo, HEo, HRo⟩ := hrel
          cases gk with
          | zero =>
            have c1 : decide (i < (ms.length : Int)) = false := decide_eq_false (by have := HI.out; omega)
            have hro : plRnd (plOf E k d) s (ms.drop (ms.length - 0)) o M2 = some (out, M1) := HRN.out
            rw [Nat.sub_zero, List.drop_length] at hro
            simp only [plRnd, Option.some.injEq, Prod.mk.injEq] at hro
            obtain ⟨rfl, rfl⟩ := hro
            obtain ⟨p0, p1, o0, o1, o2, f0, f1, f2⟩ := HFo.out.facts
            obtain ⟨W9, hput, hm9, hg9⟩ := HMo.out.put s HS.out o HL.out
            have HF9 := Aside0.mk (HFo.out.kept HM.out.lt hg9)
            have HM9 := Aside0.mk hm9
            obtain ⟨_, _, n0, n1, n2, _, _, _⟩ := HF9.out.facts
            obtain ⟨r0, r1, r2, g0, g1, g2⟩ := HF9.out.res
            simp only [plV] at hput
            clear hm9 hg9
            go_wp2
            have hBW := HM.out.lt
            exact bodyPost_ret (v := plV o) (by simp [results, Tryd.results48, go_sem, plV, r0, r1, r2]) rfl ⟨rfl, ((HM9.out.set (by omega) _).set (by omega) _).set (by omega) _, plSet (plSet (plSet HF9.out.g (by omega) _) (by omega) _) (by omega) _⟩
          | succ k1 =>
            have c1 : decide (i < (ms.length : Int)) = true := decide_eq_true (by have := HI.out; omega)
            have hi0 : 0 ≤ i := by have := HI.out; have := HK.out; omega
            have hi1 : i < (ms.length : Int) := by have := HI.out; omega
            have hrn := HRN.out
            rw [plDrop ms _ (show ms.length - (k1 + 1) < ms.length by have := HK.out; omega), show (((ms.length - (k1 + 1) : Nat) : Nat) : Int) = i by have := HI.out; have := HK.out; omega] at hrn
            simp only [plRnd] at hrn
            obtain ⟨t, ht, hrn⟩ := Option.bind_eq_some_iff.mp hrn
            obtain ⟨⟨n, M3⟩, hn, hrn⟩ := Option.bind_eq_some_iff.mp hrn
            dsimp only at hrn
            rw [show ms.length - (k1 + 1) + 1 = ms.length - k1 by have := HK.out; omega] at hrn
            obtain ⟨m, hm⟩ : ∃ m : Int, rd ms i = m := ⟨_, rfl⟩
            rw [hm] at ht
            obtain ⟨g, arr, hgb, hA, hcs, harr⟩ : ∃ (g : Nat) (arr : Array Value), W.heap.size ≤ g ∧ A6 = some ⟨g, 0, none⟩ ∧ wr.heap[g]? = some (.cells arr 3 (0, 0)) ∧ ∀ j, j < ms.length → arr[j]? = some (.int .i64 (rd ms (j : Int))) := by
              obtain ⟨A, c, hv, h⟩ := HRo.out
              rcases h with h | h
              · rw [h] at hi1; simp at hi1; omega
              · injection hv with e1 e2 e3; rw [e1]; exact h
            subst hA
            have hcell : wr.cell? ⟨g, i.toNat, none⟩ = some (.int .i64 m) := by
              rw [blk_cell hcs, harr i.toNat (by omega), show ((i.toNat : Nat) : Int) = i by omega, hm]
            have HT := Aside0.mk ht
            have HN := Aside0.mk hn
            have HRN2 := Aside0.mk hrn
            have HIB := Aside0.mk (show 0 ≤ i ∧ i < (ms.length : Int) from ⟨hi0, hi1⟩)
            obtain ⟨p0, p1, _, _, _, _, _, _⟩ := HFo.out.facts
            clear ht hn hrn hm hcs harr
            go_wp2
            have HBW := Aside0.mk HM.out.lt
            clear hgb
            refine region_inv (J := fun L a Wc => ∃ v33 v34 v35 v36 v37 v10 : Value, a = { tmps := #[Value.agg #[Value.func (Fn.func 67) #[] #[.pointer (some ⟨Bg, 0, none⟩)], Value.map (some B)], Value.string s, Value.pointer (some { block := W.heap.size, off := 0 }), undef, Value.pointer (some { block := W.heap.size + 1, off := 0 }), Value.pointer (some { block := W.heap.size + 1 + 1, off := 0 }), Value.bool false, Value.pointer (some { block := W.heap.size + 1 + 1 + 1, off := 0 }), undef, Value.int IntKind.i64 m, v10, Value.tuple #[Value.agg #[Value.int IntKind.i64 0, Value.int IntKind.i64 0, Value.int IntKind.i64 0], Value.bool false], Value.pointer (some { block := W.heap.size, off := 1 }), Value.map (some B), Value.string s, Value.tuple #[Value.agg #[Value.int IntKind.i64 0, Value.int IntKind.i64 0, Value.int IntKind.i64 0], Value.bool false], Value.agg #[Value.int IntKind.i64 0, Value.int IntKind.i64 0, Value.int IntKind.i64 0], Value.bool false, Value.bool false, undef, Value.agg #[Value.int IntKind.i64 (-1), Value.int IntKind.i64 (-1), Value.int IntKind.i64 0], Value.pointer (some { block := W.heap.size, off := 0 }), Value.func (Fn.func 67) #[] #[.pointer (some ⟨Bg, 0, none⟩)], Value.string s, Value.bool true, Value.agg #[Value.int IntKind.i64 0, Value.int IntKind.i64 0, Value.int IntKind.i64 1], Value.string s, Value.slice (some { block := g, off := 0 }) ms.length c6, Value.int IntKind.i64 (ms.length : Int), Value.int IntKind.i64 i, Value.bool true, Value.pointer (some { block := g, off := i.toNat }), Value.int IntKind.i64 m, v33, v34, v35, v36, v37, u38, u39, u40, u41, u42, u43, u44, u45, u46, u47, u48, u49, u50, u51, u52, u53, u54, u55, u56, u57, u58, u59, u60, u61, u62, u63, u64, u65, u66, u67, u68, u69, undef, undef, undef, undef, undef], defers := [] } ∧ plRS wr B (.func (.func 67) #[] #[.pointer (some ⟨Bg, 0, none⟩)]) s t m n M2 M3 L v33 v34 v35 v36 v37 v10 Wc) (by kernel_rfl) (by kernel_rfl) ?start ?step ?fin
            case start => exact ⟨_, _, _, _, _, _, rfl, ⟨plGrown (below_drew1 (Below.refl _ _)) _, by simpa using HMo.out.below (below_drew1 (Below.refl _ _)), nofun, nofun, nofun, nofun, nofun, nofun, nofun⟩⟩
            case step =>
              rintro L a Wc j o ho hL hp ⟨v33, v34, v35, v36, v37, v10, rfl, H⟩
              have hj : j < 7 := (Array.getElem?_eq_some_iff.1 ho).1
              rcases (show j = 0 ∨ j = 1 ∨ j = 2 ∨ j = 3 ∨ j = 4 ∨ j = 5 ∨ j = 6 by omega) with rfl | rfl | rfl | rfl | rfl | rfl | rfl
              all_goals (obtain rfl : _ = o := Option.some.inj (show some _ = some o from ho); simp [Region.binds] at hp; refine plOp_of rfl (fun K hK => ?_))
              · -- operation 0
                obtain ⟨p0, p1, _, _, _, _, _, _⟩ := (HFo.out.kept HBW.out H.g).facts
                go_simp
                refine Or.inl ?_
                have H1 := H
                refine hK _ _ ⟨_, v34, v35, v36, v37, v10, rfl, ⟨?_, ?_, ?_, ?_, ?_, ?_, ?_, ?_, ?_⟩⟩
                · exact H1.g
                · exact by simpa using H1.mem
                · exact fun _ => rfl
                · exact fun hl => H1.h1 (by simpa using hl)
                · exact fun hl => H1.h2 (by simpa using hl)
                · exact fun hl => H1.h3 (by simpa using hl)
                · exact fun hl => H1.h4 (by simpa using hl)
                · exact fun hl => by obtain ⟨b, q, e, x1, x2, x3⟩ := H1.h5 (by simpa using hl); exact ⟨b, q, e, x1, x2, fun h6 => x3 (by simpa using h6)⟩
                · exact fun hl => by have := H1.o6 (by simpa using hl); simp [this]
              · -- operation 1
                go_simp
                refine Or.inl ?_
                have H1 := H
                refine hK _ _ ⟨v33, _, v35, v36, v37, v10, rfl, ⟨?_, ?_, ?_, ?_, ?_, ?_, ?_, ?_, ?_⟩⟩
                · exact H1.g
                · exact by simpa using H1.mem
                · exact fun hl => H1.h0 (by simpa using hl)
                · exact fun _ => rfl
                · exact fun hl => H1.h2 (by simpa using hl)
                · exact fun hl => H1.h3 (by simpa using hl)
                · exact fun hl => H1.h4 (by simpa using hl)
                · exact fun hl => by obtain ⟨b, q, e, x1, x2, x3⟩ := H1.h5 (by simpa using hl); exact ⟨b, q, e, x1, x2, fun h6 => x3 (by simpa using h6)⟩
                · exact fun hl => by have := H1.o6 (by simpa using hl); simp [this]
              · -- operation 2
                go_simp
                refine Or.inl ?_
                have H1 := H
                refine hK _ _ ⟨v33, v34, _, v36, v37, v10, rfl, ⟨?_, ?_, ?_, ?_, ?_, ?_, ?_, ?_, ?_⟩⟩
                · exact H1.g
                · exact by simpa using H1.mem
                · exact fun hl => H1.h0 (by simpa using hl)
                · exact fun hl => H1.h1 (by simpa using hl)
                · exact fun _ => rfl
                · exact fun hl => H1.h3 (by simpa using hl)
                · exact fun hl => H1.h4 (by simpa using hl)
                · exact fun hl => by obtain ⟨b, q, e, x1, x2, x3⟩ := H1.h5 (by simpa using hl); exact ⟨b, q, e, x1, x2, fun h6 => x3 (by simpa using h6)⟩
                · exact fun hl => by have := H1.o6 (by simpa using hl); simp [this]
              · -- operation 3
                have y1 : L 1 = true := by simp [hp]
                have y2 : L 2 = true := by simp [hp]
                obtain rfl := H.h1 y1
                obtain rfl := H.h2 y2
                go_simp
                refine Or.inl ?_
                refine (impl_hopped.calls s m t _ HT.out).mono ?_
                rintro e w' ⟨rfl, hbw⟩
                have H1 := H.below hbw
                refine hK _ _ ⟨v33, _, _, _, v37, v10, rfl, ⟨?_, ?_, ?_, ?_, ?_, ?_, ?_, ?_, ?_⟩⟩
                · exact H1.g
                · exact by simpa using H1.mem
                · exact fun hl => H1.h0 (by simpa using hl)
                · exact fun hl => H1.h1 (by simpa using hl)
                · exact fun hl => H1.h2 (by simpa using hl)
                · exact fun _ => rfl
                · exact fun hl => H1.h4 (by simpa using hl)
                · exact fun hl => by obtain ⟨b, q, e, x1, x2, x3⟩ := H1.h5 (by simpa using hl); exact ⟨b, q, e, x1, x2, fun h6 => x3 (by simpa using h6)⟩
                · exact fun hl => by have := H1.o6 (by simpa using hl); simp [this]
              · -- operation 4
                have y0 : L 0 = true := by simp [hp]
                have y3 : L 3 = true := by simp [hp]
                obtain rfl := H.h0 y0
                obtain rfl := H.h3 y3
                have hm := H.mem
                rw [if_neg (by simp [hL])] at hm
                go_simp
                refine Or.inl ?_
                refine (IH.out M2 M3 t n Wc HN.out hm (hE.kept _ _ B M2 HEo.out HMo.out H.g)).mono ?_
                rintro e w' ⟨rfl, hm3, hg3⟩
                have H1 := H
                refine hK _ _ ⟨_, v34, v35, _, _, v10, rfl, ⟨?_, ?_, ?_, ?_, ?_, ?_, ?_, ?_, ?_⟩⟩
                · exact H1.g.trans hg3
                · exact by simpa using hm3
                · exact fun hl => H1.h0 (by simpa using hl)
                · exact fun hl => H1.h1 (by simpa using hl)
                · exact fun hl => H1.h2 (by simpa using hl)
                · exact fun hl => H1.h3 (by simpa using hl)
                · exact fun _ => rfl
                · exact fun hl => by obtain ⟨b, q, e, x1, x2, x3⟩ := H1.h5 (by simpa using hl); exact ⟨b, q, e, x1, blk_grown x2 hg3 (by intro e; injection e with e; have := HBW.out; have := HFo.out.n; omega), fun h6 => x3 (by simpa using h6)⟩
                · exact fun hl => by have := H1.o6 (by simpa using hl); simp [this]
              · -- operation 5
                go_simp
                refine Or.inl ?_
                have H1 := H.below (below_alloc (Below.refl _ _) (Obj.cells #[.int .i64 0, .int .i64 0, .int .i64 0] 55))
                refine hK _ _ ⟨v33, v34, v35, v36, v37, _, rfl, ⟨?_, ?_, ?_, ?_, ?_, ?_, ?_, ?_, ?_⟩⟩
                · exact H1.g
                · exact by simpa using H1.mem
                · exact fun hl => H1.h0 (by simpa using hl)
                · exact fun hl => H1.h1 (by simpa using hl)
                · exact fun hl => H1.h2 (by simpa using hl)
                · exact fun hl => H1.h3 (by simpa using hl)
                · exact fun hl => H1.h4 (by simpa using hl)
                · exact fun _ => ⟨Wc.heap.size, (0, 0, 0), rfl, H.g.size, blk_new Wc _, fun h6 => absurd (H.o6 (by simpa using h6)).2 (by simp [hL])⟩
                · exact fun hl => by have := H1.o6 (by simpa using hl); simp [this]
              · -- operation 6
                have y4 : L 4 = true := by simp [hp]
                have y5 : L 5 = true := by simp [hp]
                obtain rfl := H.h4 y4
                obtain ⟨b, q, rfl, x1, x2, x3⟩ := H.h5 y5
                have d0 : Wc.cell? ⟨b, 0, none⟩ = some (.int .i64 q.1) := by rw [blk_cell x2]; rfl
                have d1 : Wc.cell? ⟨b, 1, none⟩ = some (.int .i64 q.2.1) := by rw [blk_cell x2]; rfl
                have d2 : Wc.cell? ⟨b, 2, none⟩ = some (.int .i64 q.2.2) := by rw [blk_cell x2]; rfl
                have g0 := blk_frozen x2 0
                have g1 := blk_frozen x2 1
                have g2 := blk_frozen x2 2
                have hBb : B ≠ b := by have := HBW.out; have := HFo.out.n; omega
                go_simp
                refine Or.inl ?_
                have H1 := H
                refine hK _ _ ⟨v33, v34, v35, v36, _, _, rfl, ⟨?_, ?_, ?_, ?_, ?_, ?_, ?_, ?_, ?_⟩⟩
                · exact plSet (plSet (plSet H1.g x1 _) x1 _) x1 _
                · exact by have := H1.mem; simpa using ((this.set hBb _).set hBb _).set hBb _
                · exact fun hl => H1.h0 (by simpa using hl)
                · exact fun hl => H1.h1 (by simpa using hl)
                · exact fun hl => H1.h2 (by simpa using hl)
                · exact fun hl => H1.h3 (by simpa using hl)
                · exact fun _ => rfl
                · exact fun _ => ⟨b, n, rfl, x1, blk_put (blk_put (blk_put x2 0 _ rfl) 1 _ rfl) 2 _ rfl, fun _ => rfl⟩
                · exact fun _ => by simp [hp]
            case fin =>
              rintro L a Wc hall ⟨v33, v34, v35, v36, v37, v10, rfl, H⟩
              obtain ⟨b, q, rfl, x1, x2, x3⟩ := H.h5 (hall 5 (by decide))
              obtain rfl := x3 (hall 6 (by decide))
              obtain rfl := H.h4 (hall 4 (by decide))
              have hm3 := H.mem
              rw [if_pos (hall 4 (by decide))] at hm3
              have hg3 := H.g
              clear H hall x3
              obtain ⟨n1, n2, n3⟩ := q
              obtain ⟨o1, o2, o3⟩ := o
              have HFc := Aside0.mk (HFo.out.kept HBW.out hg3)
              have HEc := Aside0.mk (hE.kept _ _ B M2 HEo.out HMo.out hg3)
              have HRc := Aside0.mk (HRo.out.kept hg3 HBW.out)
              have HMc := Aside0.mk hm3
              have HX := Aside0.mk x2
              have HX1 := Aside0.mk (show W.heap.size + 4 ≤ b by have := HFo.out.n; omega)
              have cfs := HFc.out.facts
              dsimp only at cfs
              obtain ⟨_, _, c0, c1', c2, f0, f1, f2⟩ := cfs
              have d0 : Wc.cell? ⟨b, 0, none⟩ = some (.int .i64 n1) := by rw [blk_cell x2]; rfl
              have d1 : Wc.cell? ⟨b, 1, none⟩ = some (.int .i64 n2) := by rw [blk_cell x2]; rfl
              have d2 : Wc.cell? ⟨b, 2, none⟩ = some (.int .i64 n3) := by rw [blk_cell x2]; rfl
              have wi : wrap64 (i + 1) = i + 1 := by have := HIB.out; have := HLEN.out; unfold wrap64; omega
              have wi' : IntKind.i64.wrap (i + 1) = i + 1 := (i64_w _).trans wi
              have hrn2 := HRN2.out
              dsimp only at hrn2
              clear x1 x2 hg3 hm3
              by_cases hz : n3 = 0
              · subst hz
                rw [if_pos rfl] at hrn2
                have HRN3 := Aside0.mk hrn2
                clear hrn2
                go_wp2
                go_roundg k1
                case measure => omega
                case rel => exact ⟨i + 1, (o1, o2, o3), M3, rfl, ⟨by have := HI.out; omega⟩, ⟨by have := HK.out; omega⟩, HRN3, HFc, HMc, HEc, HRc⟩
              · rw [if_neg hz] at hrn2
                have hz1 : (n3 == 0) = false := beq_eq_false_iff_ne.2 hz
                have HRN3 := Aside0.mk hrn2
                clear hrn2 hz
                obtain ⟨x, hx⟩ : ∃ x : Int, wrap64 (n1 + 1) = x := ⟨_, rfl⟩
                have hx' : IntKind.i64.wrap (n1 + 1) = x := (i64_w _).trans hx
                by_cases e1 : o1 < 0
                · have e1' : decide (o1 < 0) = true := decide_eq_true e1
                  have E1 := Aside0.mk e1
                  clear e1
                  go_wp2
                  have e1 := E1.out
                  have FD_ := Aside0.mk (show plFr W B (.func (.func 67) #[] #[.pointer (some ⟨Bg, 0, none⟩)]) (x, o2, o3) (Wc.setCell ⟨W.heap.size + 1 + 1 + 1, 0, none⟩ (.int .i64 x)) from HFc.out.put 0 x (x, o2, o3) rfl)
                  have MD_ := Aside0.mk (show plMem (Wc.setCell ⟨W.heap.size + 1 + 1 + 1, 0, none⟩ (.int .i64 x)) B M3 from HMc.out.set (by have := HBW.out; omega) _)
                  have RD_ := Aside0.mk (show plRow (Wc.setCell ⟨W.heap.size + 1 + 1 + 1, 0, none⟩ (.int .i64 x)) W.heap.size (.slice (some ⟨g, 0, none⟩) ms.length c6) ms from HRc.out.put (b := W.heap.size + 3) HFc.out.o (by decide))
                  have BD_ := Aside0.mk (show (Wc.setCell ⟨W.heap.size + 1 + 1 + 1, 0, none⟩ (.int .i64 x)).heap[b]? = some (.cells #[.int .i64 n1, .int .i64 n2, .int .i64 n3] 55 (0, 0)) from (Below.heap_setCell _ _ _ _ (by show b ≠ W.heap.size + 3; have := HX1.out; omega)).trans HX.out)
                  obtain ⟨y, hy⟩ : ∃ y : Int, wrap64 (n2 + 1) = y := ⟨_, rfl⟩
                  obtain ⟨z, hzz⟩ : ∃ z : Int, wrap64 (o3 + n3) = z := ⟨_, rfl⟩
                  have hy' : IntKind.i64.wrap (n2 + 1) = y := (i64_w _).trans hy
                  have hzz' : IntKind.i64.wrap (o3 + n3) = z := (i64_w _).trans hzz
                  have HUP := Aside0.mk (show plUpd (o1, o2, o3) (n1, n2, n3) = (x, mx o2 y, z) from by simp only [plUpd, hx, hy, hzz]; rw [if_pos (by omega)])
                  clear hx
                  refine region_inv (J := fun L a Wd => ∃ v56 v57 v58 v59 v60 v61 v62 v63 v64 v65 v66 v67 v68 : Value, a = { tmps := #[Value.agg #[Value.func (Fn.func 67) #[] #[.pointer (some ⟨Bg, 0, none⟩)], Value.map (some B)], Value.string s, Value.pointer (some { block := W.heap.size, off := 0 }), undef, Value.pointer (some { block := W.heap.size + 1, off := 0 }), Value.pointer (some { block := W.heap.size + 1 + 1, off := 0 }), Value.bool false, Value.pointer (some { block := W.heap.size + 1 + 1 + 1, off := 0 }), undef, Value.int IntKind.i64 m, Value.pointer (some { block := b, off := 0 }), Value.tuple #[Value.agg #[Value.int IntKind.i64 0, Value.int IntKind.i64 0, Value.int IntKind.i64 0], Value.bool false], Value.pointer (some { block := W.heap.size, off := 1 }), Value.map (some B), Value.string s, Value.tuple #[Value.agg #[Value.int IntKind.i64 0, Value.int IntKind.i64 0, Value.int IntKind.i64 0], Value.bool false], Value.agg #[Value.int IntKind.i64 0, Value.int IntKind.i64 0, Value.int IntKind.i64 0], Value.bool false, Value.bool false, undef, Value.agg #[Value.int IntKind.i64 (-1), Value.int IntKind.i64 (-1), Value.int IntKind.i64 0], Value.pointer (some { block := W.heap.size, off := 0 }), Value.func (Fn.func 67) #[] #[.pointer (some ⟨Bg, 0, none⟩)], Value.string s, Value.bool true, Value.agg #[Value.int IntKind.i64 0, Value.int IntKind.i64 0, Value.int IntKind.i64 1], Value.string s, Value.slice (some { block := g, off := 0 }) ms.length c6, Value.int IntKind.i64 (ms.length : Int), Value.int IntKind.i64 i, Value.bool true, Value.pointer (some { block := g, off := i.toNat }), Value.int IntKind.i64 m, v33, v34, v35, v36, Value.agg #[Value.int IntKind.i64 n1, Value.int IntKind.i64 n2, Value.int IntKind.i64 n3], Value.pointer (some { block := b, off := 2 }), Value.int IntKind.i64 n3, Value.bool false, Value.pointer (some { block := W.heap.size + 1 + 1 + 1, off := 0 }), Value.int IntKind.i64 o1, Value.bool true, Value.bool true, undef, undef, undef, undef, undef, undef, Value.bool true, Value.pointer (some { block := b, off := 0 }), Value.int IntKind.i64 n1, Value.int IntKind.i64 x, Value.pointer (some { block := W.heap.size + 1 + 1 + 1, off := 0 }), v56, v57, v58, v59, v60, v61, v62, v63, v64, v65, v66, v67, v68, u69, undef, undef, undef, undef, undef], defers := [] } ∧ plR2 W B (.func (.func 67) #[] #[.pointer (some ⟨Bg, 0, none⟩)]) b ms (.slice (some ⟨g, 0, none⟩) ms.length c6) x o2 o3 n1 n2 n3 y z M3 L v56 v57 v58 v59 v60 v61 v62 v63 v64 v65 v66 v67 v68 Wd) (by kernel_rfl) (by kernel_rfl) ?start2 ?step2 ?fin2
                  case start2 => exact ⟨_, _, _, _, _, _, _, _, _, _, _, _, _, rfl, ⟨by simpa using FD_.out.kept HBW.out (plGrown (below_drew1 (Below.refl _ _)) _), MD_.out.below (below_drew1 (Below.refl _ _)), RD_.out.kept (plGrown (below_drew1 (Below.refl _ _)) _) HBW.out, BD_.out, nofun, nofun, nofun, nofun, nofun, nofun, nofun, nofun, nofun, nofun, nofun, nofun, nofun, nofun, nofun⟩⟩
                  case step2 =>
                    rintro L a Wd j ob ho hL hp ⟨v56, v57, v58, v59, v60, v61, v62, v63, v64, v65, v66, v67, v68, rfl, H⟩
                    have hj : j < 15 := (Array.getElem?_eq_some_iff.1 ho).1
                    rcases (show j = 0 ∨ j = 1 ∨ j = 2 ∨ j = 3 ∨ j = 4 ∨ j = 5 ∨ j = 6 ∨ j = 7 ∨ j = 8 ∨ j = 9 ∨ j = 10 ∨ j = 11 ∨ j = 12 ∨ j = 13 ∨ j = 14 by omega) with rfl | rfl | rfl | rfl | rfl | rfl | rfl | rfl | rfl | rfl | rfl | rfl | rfl | rfl | rfl
                    all_goals (obtain rfl : _ = ob := Option.some.inj (show some _ = some ob from ho); simp [Region.binds] at hp; refine plOp_of rfl (fun K hK => ?_))
                    · -- operation 0
                      go_simp
                      refine Or.inl ?_
                      refine hK _ _ ⟨_, v57, v58, v59, v60, v61, v62, v63, v64, v65, v66, v67, v68, rfl, ⟨?_, ?_, ?_, ?_, ?_, ?_, ?_, ?_, ?_, ?_, ?_, ?_, ?_, ?_, ?_, ?_, ?_, ?_, ?_⟩⟩
                      · exact by simpa using H.fr
                      · exact H.m
                      · exact H.r
                      · exact H.bx
                      · exact fun _ => rfl
                      · exact fun hl => H.h1 (by simpa using hl)
                      · exact fun hl => H.h2 (by simpa using hl)
                      · exact fun hl => H.h3 (by simpa using hl)
                      · exact fun hl => H.h4 (by simpa using hl)
                      · exact fun hl => H.h5 (by simpa using hl)
                      · exact fun hl => H.h6 (by simpa using hl)
                      · exact fun hl => H.h7 (by simpa using hl)
                      · exact fun hl => H.h8 (by simpa using hl)
                      · exact fun hl => H.h9 (by simpa using hl)
                      · exact fun hl => H.h10 (by simpa using hl)
                      · exact fun hl => H.h11 (by simpa using hl)
                      · exact fun hl => H.h13 (by simpa using hl)
                      · exact fun hl => by have := H.o12 (by simpa using hl); simp [this]
                      · exact fun hl => by have := H.o14 (by simpa using hl); simp [this]
                    · -- operation 1
                      have y0 : L 0 = true := by simp [hp]
                      obtain rfl := H.h0 y0
                      have n12 : L 12 = false := by cases e : L 12 with | false => rfl | true => exact absurd (H.o12 e) (by simp [hL])
                      have cf := H.fr.facts
                      rw [n12] at cf
                      obtain ⟨_, _, _, c1, _, _, _, _⟩ := cf
                      simp only [Bool.false_eq_true, if_false] at c1
                      go_simp
                      refine Or.inl ?_
                      refine hK _ _ ⟨_, _, v58, v59, v60, v61, v62, v63, v64, v65, v66, v67, v68, rfl, ⟨?_, ?_, ?_, ?_, ?_, ?_, ?_, ?_, ?_, ?_, ?_, ?_, ?_, ?_, ?_, ?_, ?_, ?_, ?_⟩⟩
                      · exact by simpa using H.fr
                      · exact H.m
                      · exact H.r
                      · exact H.bx
                      · exact fun hl => H.h0 (by simpa using hl)
                      · exact fun _ => rfl
                      · exact fun hl => H.h2 (by simpa using hl)
                      · exact fun hl => H.h3 (by simpa using hl)
                      · exact fun hl => H.h4 (by simpa using hl)
                      · exact fun hl => H.h5 (by simpa using hl)
                      · exact fun hl => H.h6 (by simpa using hl)
                      · exact fun hl => H.h7 (by simpa using hl)
                      · exact fun hl => H.h8 (by simpa using hl)
                      · exact fun hl => H.h9 (by simpa using hl)
                      · exact fun hl => H.h10 (by simpa using hl)
                      · exact fun hl => H.h11 (by simpa using hl)
                      · exact fun hl => H.h13 (by simpa using hl)
                      · exact fun hl => by have := H.o12 (by simpa using hl); simp [this]
                      · exact fun hl => by have := H.o14 (by simpa using hl); simp [this]
                    · -- operation 2
                      go_simp
                      refine Or.inl ?_
                      refine hK _ _ ⟨v56, v57, _, v59, v60, v61, v62, v63, v64, v65, v66, v67, v68, rfl, ⟨?_, ?_, ?_, ?_, ?_, ?_, ?_, ?_, ?_, ?_, ?_, ?_, ?_, ?_, ?_, ?_, ?_, ?_, ?_⟩⟩
                      · exact by simpa using H.fr
                      · exact H.m
                      · exact H.r
                      · exact H.bx
                      · exact fun hl => H.h0 (by simpa using hl)
                      · exact fun hl => H.h1 (by simpa using hl)
                      · exact fun _ => rfl
                      · exact fun hl => H.h3 (by simpa using hl)
                      · exact fun hl => H.h4 (by simpa using hl)
                      · exact fun hl => H.h5 (by simpa using hl)
                      · exact fun hl => H.h6 (by simpa using hl)
                      · exact fun hl => H.h7 (by simpa using hl)
                      · exact fun hl => H.h8 (by simpa using hl)
                      · exact fun hl => H.h9 (by simpa using hl)
                      · exact fun hl => H.h10 (by simpa using hl)
                      · exact fun hl => H.h11 (by simpa using hl)
                      · exact fun hl => H.h13 (by simpa using hl)
                      · exact fun hl => by have := H.o12 (by simpa using hl); simp [this]
                      · exact fun hl => by have := H.o14 (by simpa using hl); simp [this]
                    · -- operation 3
                      have y2 : L 2 = true := by simp [hp]
                      obtain rfl := H.h2 y2
                      have c1 : Wd.cell? ⟨b, 1, none⟩ = some (.int .i64 n2) := by rw [blk_cell H.bx]; rfl
                      go_simp
                      refine Or.inl ?_
                      refine hK _ _ ⟨v56, v57, _, _, v60, v61, v62, v63, v64, v65, v66, v67, v68, rfl, ⟨?_, ?_, ?_, ?_, ?_, ?_, ?_, ?_, ?_, ?_, ?_, ?_, ?_, ?_, ?_, ?_, ?_, ?_, ?_⟩⟩
                      · exact by simpa using H.fr
                      · exact H.m
                      · exact H.r
                      · exact H.bx
                      · exact fun hl => H.h0 (by simpa using hl)
                      · exact fun hl => H.h1 (by simpa using hl)
                      · exact fun hl => H.h2 (by simpa using hl)
                      · exact fun _ => rfl
                      · exact fun hl => H.h4 (by simpa using hl)
                      · exact fun hl => H.h5 (by simpa using hl)
                      · exact fun hl => H.h6 (by simpa using hl)
                      · exact fun hl => H.h7 (by simpa using hl)
                      · exact fun hl => H.h8 (by simpa using hl)
                      · exact fun hl => H.h9 (by simpa using hl)
                      · exact fun hl => H.h10 (by simpa using hl)
                      · exact fun hl => H.h11 (by simpa using hl)
                      · exact fun hl => H.h13 (by simpa using hl)
                      · exact fun hl => by have := H.o12 (by simpa using hl); simp [this]
                      · exact fun hl => by have := H.o14 (by simpa using hl); simp [this]
                    · -- operation 4
                      have y3 : L 3 = true := by simp [hp]
                      obtain rfl := H.h3 y3
                      go_simp
                      refine Or.inl ?_
                      refine hK _ _ ⟨v56, v57, v58, _, _, v61, v62, v63, v64, v65, v66, v67, v68, rfl, ⟨?_, ?_, ?_, ?_, ?_, ?_, ?_, ?_, ?_, ?_, ?_, ?_, ?_, ?_, ?_, ?_, ?_, ?_, ?_⟩⟩
                      · exact by simpa using H.fr
                      · exact H.m
                      · exact H.r
                      · exact H.bx
                      · exact fun hl => H.h0 (by simpa using hl)
                      · exact fun hl => H.h1 (by simpa using hl)
                      · exact fun hl => H.h2 (by simpa using hl)
                      · exact fun hl => H.h3 (by simpa using hl)
                      · exact fun _ => rfl
                      · exact fun hl => H.h5 (by simpa using hl)
                      · exact fun hl => H.h6 (by simpa using hl)
                      · exact fun hl => H.h7 (by simpa using hl)
                      · exact fun hl => H.h8 (by simpa using hl)
                      · exact fun hl => H.h9 (by simpa using hl)
                      · exact fun hl => H.h10 (by simpa using hl)
                      · exact fun hl => H.h11 (by simpa using hl)
                      · exact fun hl => H.h13 (by simpa using hl)
                      · exact fun hl => by have := H.o12 (by simpa using hl); simp [this]
                      · exact fun hl => by have := H.o14 (by simpa using hl); simp [this]
                    · -- operation 5
                      have y1 : L 1 = true := by simp [hp]
                      obtain rfl := H.h1 y1
                      have y4 : L 4 = true := by simp [hp]
                      obtain rfl := H.h4 y4
                      go_simp
                      refine Or.inl ?_
                      refine hK _ _ ⟨v56, _, v58, v59, _, _, v62, v63, v64, v65, v66, v67, v68, rfl, ⟨?_, ?_, ?_, ?_, ?_, ?_, ?_, ?_, ?_, ?_, ?_, ?_, ?_, ?_, ?_, ?_, ?_, ?_, ?_⟩⟩
                      · exact by simpa using H.fr
                      · exact H.m
                      · exact H.r
                      · exact H.bx
                      · exact fun hl => H.h0 (by simpa using hl)
                      · exact fun hl => H.h1 (by simpa using hl)
                      · exact fun hl => H.h2 (by simpa using hl)
                      · exact fun hl => H.h3 (by simpa using hl)
                      · exact fun hl => H.h4 (by simpa using hl)
                      · exact fun _ => rfl
                      · exact fun hl => H.h6 (by simpa using hl)
                      · exact fun hl => H.h7 (by simpa using hl)
                      · exact fun hl => H.h8 (by simpa using hl)
                      · exact fun hl => H.h9 (by simpa using hl)
                      · exact fun hl => H.h10 (by simpa using hl)
                      · exact fun hl => H.h11 (by simpa using hl)
                      · exact fun hl => H.h13 (by simpa using hl)
                      · exact fun hl => by have := H.o12 (by simpa using hl); simp [this]
                      · exact fun hl => by have := H.o14 (by simpa using hl); simp [this]
                    · -- operation 6
                      go_simp
                      refine Or.inl ?_
                      refine hK _ _ ⟨v56, v57, v58, v59, v60, v61, _, v63, v64, v65, v66, v67, v68, rfl, ⟨?_, ?_, ?_, ?_, ?_, ?_, ?_, ?_, ?_, ?_, ?_, ?_, ?_, ?_, ?_, ?_, ?_, ?_, ?_⟩⟩
                      · exact by simpa using H.fr
                      · exact H.m
                      · exact H.r
                      · exact H.bx
                      · exact fun hl => H.h0 (by simpa using hl)
                      · exact fun hl => H.h1 (by simpa using hl)
                      · exact fun hl => H.h2 (by simpa using hl)
                      · exact fun hl => H.h3 (by simpa using hl)
                      · exact fun hl => H.h4 (by simpa using hl)
                      · exact fun hl => H.h5 (by simpa using hl)
                      · exact fun _ => rfl
                      · exact fun hl => H.h7 (by simpa using hl)
                      · exact fun hl => H.h8 (by simpa using hl)
                      · exact fun hl => H.h9 (by simpa using hl)
                      · exact fun hl => H.h10 (by simpa using hl)
                      · exact fun hl => H.h11 (by simpa using hl)
                      · exact fun hl => H.h13 (by simpa using hl)
                      · exact fun hl => by have := H.o12 (by simpa using hl); simp [this]
                      · exact fun hl => by have := H.o14 (by simpa using hl); simp [this]
                    · -- operation 7
                      have y6 : L 6 = true := by simp [hp]
                      obtain rfl := H.h6 y6
                      have n14 : L 14 = false := by cases e : L 14 with | false => rfl | true => exact absurd (H.o14 e) (by simp [hL])
                      have cf := H.fr.facts
                      rw [n14] at cf
                      obtain ⟨_, _, _, _, c2, _, _, _⟩ := cf
                      simp only [Bool.false_eq_true, if_false] at c2
                      go_simp
                      refine Or.inl ?_
                      refine hK _ _ ⟨v56, v57, v58, v59, v60, v61, _, _, v64, v65, v66, v67, v68, rfl, ⟨?_, ?_, ?_, ?_, ?_, ?_, ?_, ?_, ?_, ?_, ?_, ?_, ?_, ?_, ?_, ?_, ?_, ?_, ?_⟩⟩
                      · exact by simpa using H.fr
                      · exact H.m
                      · exact H.r
                      · exact H.bx
                      · exact fun hl => H.h0 (by simpa using hl)
                      · exact fun hl => H.h1 (by simpa using hl)
                      · exact fun hl => H.h2 (by simpa using hl)
                      · exact fun hl => H.h3 (by simpa using hl)
                      · exact fun hl => H.h4 (by simpa using hl)
                      · exact fun hl => H.h5 (by simpa using hl)
                      · exact fun hl => H.h6 (by simpa using hl)
                      · exact fun _ => rfl
                      · exact fun hl => H.h8 (by simpa using hl)
                      · exact fun hl => H.h9 (by simpa using hl)
                      · exact fun hl => H.h10 (by simpa using hl)
                      · exact fun hl => H.h11 (by simpa using hl)
                      · exact fun hl => H.h13 (by simpa using hl)
                      · exact fun hl => by have := H.o12 (by simpa using hl); simp [this]
                      · exact fun hl => by have := H.o14 (by simpa using hl); simp [this]
                    · -- operation 8
                      go_simp
                      refine Or.inl ?_
                      refine hK _ _ ⟨v56, v57, v58, v59, v60, v61, v62, v63, _, v65, v66, v67, v68, rfl, ⟨?_, ?_, ?_, ?_, ?_, ?_, ?_, ?_, ?_, ?_, ?_, ?_, ?_, ?_, ?_, ?_, ?_, ?_, ?_⟩⟩
                      · exact by simpa using H.fr
                      · exact H.m
                      · exact H.r
                      · exact H.bx
                      · exact fun hl => H.h0 (by simpa using hl)
                      · exact fun hl => H.h1 (by simpa using hl)
                      · exact fun hl => H.h2 (by simpa using hl)
                      · exact fun hl => H.h3 (by simpa using hl)
                      · exact fun hl => H.h4 (by simpa using hl)
                      · exact fun hl => H.h5 (by simpa using hl)
                      · exact fun hl => H.h6 (by simpa using hl)
                      · exact fun hl => H.h7 (by simpa using hl)
                      · exact fun _ => rfl
                      · exact fun hl => H.h9 (by simpa using hl)
                      · exact fun hl => H.h10 (by simpa using hl)
                      · exact fun hl => H.h11 (by simpa using hl)
                      · exact fun hl => H.h13 (by simpa using hl)
                      · exact fun hl => by have := H.o12 (by simpa using hl); simp [this]
                      · exact fun hl => by have := H.o14 (by simpa using hl); simp [this]
                    · -- operation 9
                      have y8 : L 8 = true := by simp [hp]
                      obtain rfl := H.h8 y8
                      have c2 : Wd.cell? ⟨b, 2, none⟩ = some (.int .i64 n3) := by rw [blk_cell H.bx]; rfl
                      go_simp
                      refine Or.inl ?_
                      refine hK _ _ ⟨v56, v57, v58, v59, v60, v61, v62, v63, _, _, v66, v67, v68, rfl, ⟨?_, ?_, ?_, ?_, ?_, ?_, ?_, ?_, ?_, ?_, ?_, ?_, ?_, ?_, ?_, ?_, ?_, ?_, ?_⟩⟩
                      · exact by simpa using H.fr
                      · exact H.m
                      · exact H.r
                      · exact H.bx
                      · exact fun hl => H.h0 (by simpa using hl)
                      · exact fun hl => H.h1 (by simpa using hl)
                      · exact fun hl => H.h2 (by simpa using hl)
                      · exact fun hl => H.h3 (by simpa using hl)
                      · exact fun hl => H.h4 (by simpa using hl)
                      · exact fun hl => H.h5 (by simpa using hl)
                      · exact fun hl => H.h6 (by simpa using hl)
                      · exact fun hl => H.h7 (by simpa using hl)
                      · exact fun hl => H.h8 (by simpa using hl)
                      · exact fun _ => rfl
                      · exact fun hl => H.h10 (by simpa using hl)
                      · exact fun hl => H.h11 (by simpa using hl)
                      · exact fun hl => H.h13 (by simpa using hl)
                      · exact fun hl => by have := H.o12 (by simpa using hl); simp [this]
                      · exact fun hl => by have := H.o14 (by simpa using hl); simp [this]
                    · -- operation 10
                      have y7 : L 7 = true := by simp [hp]
                      obtain rfl := H.h7 y7
                      have y9 : L 9 = true := by simp [hp]
                      obtain rfl := H.h9 y9
                      go_simp
                      refine Or.inl ?_
                      refine hK _ _ ⟨v56, v57, v58, v59, v60, v61, v62, _, v64, _, _, v67, v68, rfl, ⟨?_, ?_, ?_, ?_, ?_, ?_, ?_, ?_, ?_, ?_, ?_, ?_, ?_, ?_, ?_, ?_, ?_, ?_, ?_⟩⟩
                      · exact by simpa using H.fr
                      · exact H.m
                      · exact H.r
                      · exact H.bx
                      · exact fun hl => H.h0 (by simpa using hl)
                      · exact fun hl => H.h1 (by simpa using hl)
                      · exact fun hl => H.h2 (by simpa using hl)
                      · exact fun hl => H.h3 (by simpa using hl)
                      · exact fun hl => H.h4 (by simpa using hl)
                      · exact fun hl => H.h5 (by simpa using hl)
                      · exact fun hl => H.h6 (by simpa using hl)
                      · exact fun hl => H.h7 (by simpa using hl)
                      · exact fun hl => H.h8 (by simpa using hl)
                      · exact fun hl => H.h9 (by simpa using hl)
                      · exact fun _ => rfl
                      · exact fun hl => H.h11 (by simpa using hl)
                      · exact fun hl => H.h13 (by simpa using hl)
                      · exact fun hl => by have := H.o12 (by simpa using hl); simp [this]
                      · exact fun hl => by have := H.o14 (by simpa using hl); simp [this]
                    · -- operation 11
                      go_simp
                      refine Or.inl ?_
                      refine hK _ _ ⟨v56, v57, v58, v59, v60, v61, v62, v63, v64, v65, v66, _, v68, rfl, ⟨?_, ?_, ?_, ?_, ?_, ?_, ?_, ?_, ?_, ?_, ?_, ?_, ?_, ?_, ?_, ?_, ?_, ?_, ?_⟩⟩
                      · exact by simpa using H.fr
                      · exact H.m
                      · exact H.r
                      · exact H.bx
                      · exact fun hl => H.h0 (by simpa using hl)
                      · exact fun hl => H.h1 (by simpa using hl)
                      · exact fun hl => H.h2 (by simpa using hl)
                      · exact fun hl => H.h3 (by simpa using hl)
                      · exact fun hl => H.h4 (by simpa using hl)
                      · exact fun hl => H.h5 (by simpa using hl)
                      · exact fun hl => H.h6 (by simpa using hl)
                      · exact fun hl => H.h7 (by simpa using hl)
                      · exact fun hl => H.h8 (by simpa using hl)
                      · exact fun hl => H.h9 (by simpa using hl)
                      · exact fun hl => H.h10 (by simpa using hl)
                      · exact fun _ => rfl
                      · exact fun hl => H.h13 (by simpa using hl)
                      · exact fun hl => by have := H.o12 (by simpa using hl); simp [this]
                      · exact fun hl => by have := H.o14 (by simpa using hl); simp [this]
                    · -- operation 12
                      have y11 : L 11 = true := by simp [hp]
                      obtain rfl := H.h11 y11
                      have y5 : L 5 = true := by simp [hp]
                      obtain rfl := H.h5 y5
                      have y1 : L 1 = true := by simp [hp]
                      obtain ⟨_, _, _, c1, c2, _, f1, f2⟩ := H.fr.facts
                      go_simp
                      refine Or.inl ?_
                      refine hK _ _ ⟨v56, v57, v58, v59, v60, _, v62, v63, v64, v65, v66, _, v68, rfl, ⟨?_, ?_, ?_, ?_, ?_, ?_, ?_, ?_, ?_, ?_, ?_, ?_, ?_, ?_, ?_, ?_, ?_, ?_, ?_⟩⟩
                      · exact by have := H.fr.put 1 (mx o2 y) (x, mx o2 y, (if L 14 = true then z else o3)) rfl; simpa [hL] using this
                      · exact H.m.set (by have := HBW.out; omega) _
                      · exact H.r.put (b := W.heap.size + 3) H.fr.o (by decide)
                      · exact (Below.heap_setCell _ _ _ _ (by show b ≠ W.heap.size + 3; have := HX1.out; omega)).trans H.bx
                      · exact fun hl => H.h0 (by simpa using hl)
                      · exact fun hl => H.h1 (by simpa using hl)
                      · exact fun hl => H.h2 (by simpa using hl)
                      · exact fun hl => H.h3 (by simpa using hl)
                      · exact fun hl => H.h4 (by simpa using hl)
                      · exact fun _ => rfl
                      · exact fun hl => H.h6 (by simpa using hl)
                      · exact fun hl => H.h7 (by simpa using hl)
                      · exact fun hl => H.h8 (by simpa using hl)
                      · exact fun hl => H.h9 (by simpa using hl)
                      · exact fun hl => H.h10 (by simpa using hl)
                      · exact fun hl => H.h11 (by simpa using hl)
                      · exact fun hl => H.h13 (by simpa using hl)
                      · exact fun _ => by simp [y1]
                      · exact fun hl => by have := H.o14 (by simpa using hl); simp [this]
                    · -- operation 13
                      go_simp
                      refine Or.inl ?_
                      refine hK _ _ ⟨v56, v57, v58, v59, v60, v61, v62, v63, v64, v65, v66, v67, _, rfl, ⟨?_, ?_, ?_, ?_, ?_, ?_, ?_, ?_, ?_, ?_, ?_, ?_, ?_, ?_, ?_, ?_, ?_, ?_, ?_⟩⟩
                      · exact by simpa using H.fr
                      · exact H.m
                      · exact H.r
                      · exact H.bx
                      · exact fun hl => H.h0 (by simpa using hl)
                      · exact fun hl => H.h1 (by simpa using hl)
                      · exact fun hl => H.h2 (by simpa using hl)
                      · exact fun hl => H.h3 (by simpa using hl)
                      · exact fun hl => H.h4 (by simpa using hl)
                      · exact fun hl => H.h5 (by simpa using hl)
                      · exact fun hl => H.h6 (by simpa using hl)
                      · exact fun hl => H.h7 (by simpa using hl)
                      · exact fun hl => H.h8 (by simpa using hl)
                      · exact fun hl => H.h9 (by simpa using hl)
                      · exact fun hl => H.h10 (by simpa using hl)
                      · exact fun hl => H.h11 (by simpa using hl)
                      · exact fun _ => rfl
                      · exact fun hl => by have := H.o12 (by simpa using hl); simp [this]
                      · exact fun hl => by have := H.o14 (by simpa using hl); simp [this]
                    · -- operation 14
                      have y13 : L 13 = true := by simp [hp]
                      obtain rfl := H.h13 y13
                      have y10 : L 10 = true := by simp [hp]
                      obtain rfl := H.h10 y10
                      have y7 : L 7 = true := by simp [hp]
                      obtain ⟨_, _, _, c1, c2, _, f1, f2⟩ := H.fr.facts
                      go_simp
                      refine Or.inl ?_
                      refine hK _ _ ⟨v56, v57, v58, v59, v60, v61, v62, v63, v64, v65, _, v67, _, rfl, ⟨?_, ?_, ?_, ?_, ?_, ?_, ?_, ?_, ?_, ?_, ?_, ?_, ?_, ?_, ?_, ?_, ?_, ?_, ?_⟩⟩
                      · exact by have := H.fr.put 2 z (x, (if L 12 = true then mx o2 y else o2), z) rfl; simpa [hL] using this
                      · exact H.m.set (by have := HBW.out; omega) _
                      · exact H.r.put (b := W.heap.size + 3) H.fr.o (by decide)
                      · exact (Below.heap_setCell _ _ _ _ (by show b ≠ W.heap.size + 3; have := HX1.out; omega)).trans H.bx
                      · exact fun hl => H.h0 (by simpa using hl)
                      · exact fun hl => H.h1 (by simpa using hl)
                      · exact fun hl => H.h2 (by simpa using hl)
                      · exact fun hl => H.h3 (by simpa using hl)
                      · exact fun hl => H.h4 (by simpa using hl)
                      · exact fun hl => H.h5 (by simpa using hl)
                      · exact fun hl => H.h6 (by simpa using hl)
                      · exact fun hl => H.h7 (by simpa using hl)
                      · exact fun hl => H.h8 (by simpa using hl)
                      · exact fun hl => H.h9 (by simpa using hl)
                      · exact fun _ => rfl
                      · exact fun hl => H.h11 (by simpa using hl)
                      · exact fun hl => H.h13 (by simpa using hl)
                      · exact fun hl => by have := H.o12 (by simpa using hl); simp [this]
                      · exact fun _ => by simp [y7]
                  case fin2 =>
                    rintro L a Wd hall ⟨v56, v57, v58, v59, v60, v61, v62, v63, v64, v65, v66, v67, v68, rfl, H⟩
                    have hF := H.fr
                    rw [if_pos (hall 12 (by decide)), if_pos (hall 14 (by decide))] at hF
                    have HFd := Aside0.mk hF
                    have HMd := Aside0.mk H.m
                    have HRd := Aside0.mk H.r
                    have HEd := Aside0.mk (hE.kept _ _ B M HEnv.out HM.out hF.g)
                    clear H hall hF hy hy' hzz hzz'
                    go_wp2
                    go_roundg k1
                    case measure => omega
                    case rel => exact ⟨i + 1, (x, mx o2 y, z), M3, rfl, ⟨by have := HI.out; omega⟩, ⟨by have := HK.out; omega⟩, ⟨by rw [← HUP.out]; exact HRN3.out⟩, HFd, HMd, HEd, HRd⟩
                · have e1' : decide (o1 < 0) = false := decide_eq_false e1
                  by_cases e2 : x < o1
                  · have e2' : decide (x < o1) = true := decide_eq_true e2
                    have E1 := Aside0.mk e1
                    have E2 := Aside0.mk e2
                    clear e1 e2
                    go_wp2
                    have e1 := E1.out
                    have e2 := E2.out
                    have FD_ := Aside0.mk (show plFr W B (.func (.func 67) #[] #[.pointer (some ⟨Bg, 0, none⟩)]) (x, o2, o3) (Wc.setCell ⟨W.heap.size + 1 + 1 + 1, 0, none⟩ (.int .i64 x)) from HFc.out.put 0 x (x, o2, o3) rfl)
                    have MD_ := Aside0.mk (show plMem (Wc.setCell ⟨W.heap.size + 1 + 1 + 1, 0, none⟩ (.int .i64 x)) B M3 from HMc.out.set (by have := HBW.out; omega) _)
                    have RD_ := Aside0.mk (show plRow (Wc.setCell ⟨W.heap.size + 1 + 1 + 1, 0, none⟩ (.int .i64 x)) W.heap.size (.slice (some ⟨g, 0, none⟩) ms.length c6) ms from HRc.out.put (b := W.heap.size + 3) HFc.out.o (by decide))
                    have BD_ := Aside0.mk (show (Wc.setCell ⟨W.heap.size + 1 + 1 + 1, 0, none⟩ (.int .i64 x)).heap[b]? = some (.cells #[.int .i64 n1, .int .i64 n2, .int .i64 n3] 55 (0, 0)) from (Below.heap_setCell _ _ _ _ (by show b ≠ W.heap.size + 3; have := HX1.out; omega)).trans HX.out)
                    obtain ⟨y, hy⟩ : ∃ y : Int, wrap64 (n2 + 1) = y := ⟨_, rfl⟩
                    obtain ⟨z, hzz⟩ : ∃ z : Int, wrap64 (o3 + n3) = z := ⟨_, rfl⟩
                    have hy' : IntKind.i64.wrap (n2 + 1) = y := (i64_w _).trans hy
                    have hzz' : IntKind.i64.wrap (o3 + n3) = z := (i64_w _).trans hzz
                    have HUP := Aside0.mk (show plUpd (o1, o2, o3) (n1, n2, n3) = (x, mx o2 y, z) from by simp only [plUpd, hx, hy, hzz]; rw [if_pos (by omega)])
                    clear hx
                    refine region_inv (J := fun L a Wd => ∃ v56 v57 v58 v59 v60 v61 v62 v63 v64 v65 v66 v67 v68 : Value, a = { tmps := #[Value.agg #[Value.func (Fn.func 67) #[] #[.pointer (some ⟨Bg, 0, none⟩)], Value.map (some B)], Value.string s, Value.pointer (some { block := W.heap.size, off := 0 }), undef, Value.pointer (some { block := W.heap.size + 1, off := 0 }), Value.pointer (some { block := W.heap.size + 1 + 1, off := 0 }), Value.bool false, Value.pointer (some { block := W.heap.size + 1 + 1 + 1, off := 0 }), undef, Value.int IntKind.i64 m, Value.pointer (some { block := b, off := 0 }), Value.tuple #[Value.agg #[Value.int IntKind.i64 0, Value.int IntKind.i64 0, Value.int IntKind.i64 0], Value.bool false], Value.pointer (some { block := W.heap.size, off := 1 }), Value.map (some B), Value.string s, Value.tuple #[Value.agg #[Value.int IntKind.i64 0, Value.int IntKind.i64 0, Value.int IntKind.i64 0], Value.bool false], Value.agg #[Value.int IntKind.i64 0, Value.int IntKind.i64 0, Value.int IntKind.i64 0], Value.bool false, Value.bool false, undef, Value.agg #[Value.int IntKind.i64 (-1), Value.int IntKind.i64 (-1), Value.int IntKind.i64 0], Value.pointer (some { block := W.heap.size, off := 0 }), Value.func (Fn.func 67) #[] #[.pointer (some ⟨Bg, 0, none⟩)], Value.string s, Value.bool true, Value.agg #[Value.int IntKind.i64 0, Value.int IntKind.i64 0, Value.int IntKind.i64 1], Value.string s, Value.slice (some { block := g, off := 0 }) ms.length c6, Value.int IntKind.i64 (ms.length : Int), Value.int IntKind.i64 i, Value.bool true, Value.pointer (some { block := g, off := i.toNat }), Value.int IntKind.i64 m, v33, v34, v35, v36, Value.agg #[Value.int IntKind.i64 n1, Value.int IntKind.i64 n2, Value.int IntKind.i64 n3], Value.pointer (some { block := b, off := 2 }), Value.int IntKind.i64 n3, Value.bool false, Value.pointer (some { block := W.heap.size + 1 + 1 + 1, off := 0 }), Value.int IntKind.i64 o1, Value.bool false, Value.bool false, Value.pointer (some { block := b, off := 0 }), Value.int IntKind.i64 n1, Value.int IntKind.i64 x, Value.pointer (some { block := W.heap.size + 1 + 1 + 1, off := 0 }), Value.int IntKind.i64 o1, Value.bool true, Value.bool true, Value.pointer (some { block := b, off := 0 }), Value.int IntKind.i64 n1, Value.int IntKind.i64 x, Value.pointer (some { block := W.heap.size + 1 + 1 + 1, off := 0 }), v56, v57, v58, v59, v60, v61, v62, v63, v64, v65, v66, v67, v68, u69, undef, undef, undef, undef, undef], defers := [] } ∧ plR2 W B (.func (.func 67) #[] #[.pointer (some ⟨Bg, 0, none⟩)]) b ms (.slice (some ⟨g, 0, none⟩) ms.length c6) x o2 o3 n1 n2 n3 y z M3 L v56 v57 v58 v59 v60 v61 v62 v63 v64 v65 v66 v67 v68 Wd) (by kernel_rfl) (by kernel_rfl) ?start2 ?step2 ?fin2
                    case start2 => exact ⟨_, _, _, _, _, _, _, _, _, _, _, _, _, rfl, ⟨by simpa using FD_.out.kept HBW.out (plGrown (below_drew1 (Below.refl _ _)) _), MD_.out.below (below_drew1 (Below.refl _ _)), RD_.out.kept (plGrown (below_drew1 (Below.refl _ _)) _) HBW.out, BD_.out, nofun, nofun, nofun, nofun, nofun, nofun, nofun, nofun, nofun, nofun, nofun, nofun, nofun, nofun, nofun⟩⟩
                    case step2 =>
                      rintro L a Wd j ob ho hL hp ⟨v56, v57, v58, v59, v60, v61, v62, v63, v64, v65, v66, v67, v68, rfl, H⟩
                      have hj : j < 15 := (Array.getElem?_eq_some_iff.1 ho).1
                      rcases (show j = 0 ∨ j = 1 ∨ j = 2 ∨ j = 3 ∨ j = 4 ∨ j = 5 ∨ j = 6 ∨ j = 7 ∨ j = 8 ∨ j = 9 ∨ j = 10 ∨ j = 11 ∨ j = 12 ∨ j = 13 ∨ j = 14 by omega) with rfl | rfl | rfl | rfl | rfl | rfl | rfl | rfl | rfl | rfl | rfl | rfl | rfl | rfl | rfl
                      all_goals (obtain rfl : _ = ob := Option.some.inj (show some _ = some ob from ho); simp [Region.binds] at hp; refine plOp_of rfl (fun K hK => ?_))
                      · -- operation 0
                        go_simp
                        refine Or.inl ?_
                        refine hK _ _ ⟨_, v57, v58, v59, v60, v61, v62, v63, v64, v65, v66, v67, v68, rfl, ⟨?_, ?_, ?_, ?_, ?_, ?_, ?_, ?_, ?_, ?_, ?_, ?_, ?_, ?_, ?_, ?_, ?_, ?_, ?_⟩⟩
                        · exact by simpa using H.fr
                        · exact H.m
                        · exact H.r
                        · exact H.bx
                        · exact fun _ => rfl
                        · exact fun hl => H.h1 (by simpa using hl)
                        · exact fun hl => H.h2 (by simpa using hl)
                        · exact fun hl => H.h3 (by simpa using hl)
                        · exact fun hl => H.h4 (by simpa using hl)
                        · exact fun hl => H.h5 (by simpa using hl)
                        · exact fun hl => H.h6 (by simpa using hl)
                        · exact fun hl => H.h7 (by simpa using hl)
                        · exact fun hl => H.h8 (by simpa using hl)
                        · exact fun hl => H.h9 (by simpa using hl)
                        · exact fun hl => H.h10 (by simpa using hl)
                        · exact fun hl => H.h11 (by simpa using hl)
                        · exact fun hl => H.h13 (by simpa using hl)
                        · exact fun hl => by have := H.o12 (by simpa using hl); simp [this]
                        · exact fun hl => by have := H.o14 (by simpa using hl); simp [this]
                      · -- operation 1
                        have y0 : L 0 = true := by simp [hp]
                        obtain rfl := H.h0 y0
                        have n12 : L 12 = false := by cases e : L 12 with | false => rfl | true => exact absurd (H.o12 e) (by simp [hL])
                        have cf := H.fr.facts
                        rw [n12] at cf
                        obtain ⟨_, _, _, c1, _, _, _, _⟩ := cf
                        simp only [Bool.false_eq_true, if_false] at c1
                        go_simp
                        refine Or.inl ?_
                        refine hK _ _ ⟨_, _, v58, v59, v60, v61, v62, v63, v64, v65, v66, v67, v68, rfl, ⟨?_, ?_, ?_, ?_, ?_, ?_, ?_, ?_, ?_, ?_, ?_, ?_, ?_, ?_, ?_, ?_, ?_, ?_, ?_⟩⟩
                        · exact by simpa using H.fr
                        · exact H.m
                        · exact H.r
                        · exact H.bx
                        · exact fun hl => H.h0 (by simpa using hl)
                        · exact fun _ => rfl
                        · exact fun hl => H.h2 (by simpa using hl)
                        · exact fun hl => H.h3 (by simpa using hl)
                        · exact fun hl => H.h4 (by simpa using hl)
                        · exact fun hl => H.h5 (by simpa using hl)
                        · exact fun hl => H.h6 (by simpa using hl)
                        · exact fun hl => H.h7 (by simpa using hl)
                        · exact fun hl => H.h8 (by simpa using hl)
                        · exact fun hl => H.h9 (by simpa using hl)
                        · exact fun hl => H.h10 (by simpa using hl)
                        · exact fun hl => H.h11 (by simpa using hl)
                        · exact fun hl => H.h13 (by simpa using hl)
                        · exact fun hl => by have := H.o12 (by simpa using hl); simp [this]
                        · exact fun hl => by have := H.o14 (by simpa using hl); simp [this]
                      · -- operation 2
                        go_simp
                        refine Or.inl ?_
                        refine hK _ _ ⟨v56, v57, _, v59, v60, v61, v62, v63, v64, v65, v66, v67, v68, rfl, ⟨?_, ?_, ?_, ?_, ?_, ?_, ?_, ?_, ?_, ?_, ?_, ?_, ?_, ?_, ?_, ?_, ?_, ?_, ?_⟩⟩
                        · exact by simpa using H.fr
                        · exact H.m
                        · exact H.r
                        · exact H.bx
                        · exact fun hl => H.h0 (by simpa using hl)
                        · exact fun hl => H.h1 (by simpa using hl)
                        · exact fun _ => rfl
                        · exact fun hl => H.h3 (by simpa using hl)
                        · exact fun hl => H.h4 (by simpa using hl)
                        · exact fun hl => H.h5 (by simpa using hl)
                        · exact fun hl => H.h6 (by simpa using hl)
                        · exact fun hl => H.h7 (by simpa using hl)
                        · exact fun hl => H.h8 (by simpa using hl)
                        · exact fun hl => H.h9 (by simpa using hl)
                        · exact fun hl => H.h10 (by simpa using hl)
                        · exact fun hl => H.h11 (by simpa using hl)
                        · exact fun hl => H.h13 (by simpa using hl)
                        · exact fun hl => by have := H.o12 (by simpa using hl); simp [this]
                        · exact fun hl => by have := H.o14 (by simpa using hl); simp [this]
                      · -- operation 3
                        have y2 : L 2 = true := by simp [hp]
                        obtain rfl := H.h2 y2
                        have c1 : Wd.cell? ⟨b, 1, none⟩ = some (.int .i64 n2) := by rw [blk_cell H.bx]; rfl
                        go_simp
                        refine Or.inl ?_
                        refine hK _ _ ⟨v56, v57, _, _, v60, v61, v62, v63, v64, v65, v66, v67, v68, rfl, ⟨?_, ?_, ?_, ?_, ?_, ?_, ?_, ?_, ?_, ?_, ?_, ?_, ?_, ?_, ?_, ?_, ?_, ?_, ?_⟩⟩
                        · exact by simpa using H.fr
                        · exact H.m
                        · exact H.r
                        · exact H.bx
                        · exact fun hl => H.h0 (by simpa using hl)
                        · exact fun hl => H.h1 (by simpa using hl)
                        · exact fun hl => H.h2 (by simpa using hl)
                        · exact fun _ => rfl
                        · exact fun hl => H.h4 (by simpa using hl)
                        · exact fun hl => H.h5 (by simpa using hl)
                        · exact fun hl => H.h6 (by simpa using hl)
                        · exact fun hl => H.h7 (by simpa using hl)
                        · exact fun hl => H.h8 (by simpa using hl)
                        · exact fun hl => H.h9 (by simpa using hl)
                        · exact fun hl => H.h10 (by simpa using hl)
                        · exact fun hl => H.h11 (by simpa using hl)
                        · exact fun hl => H.h13 (by simpa using hl)
                        · exact fun hl => by have := H.o12 (by simpa using hl); simp [this]
                        · exact fun hl => by have := H.o14 (by simpa using hl); simp [this]
                      · -- operation 4
                        have y3 : L 3 = true := by simp [hp]
                        obtain rfl := H.h3 y3
                        go_simp
                        refine Or.inl ?_
                        refine hK _ _ ⟨v56, v57, v58, _, _, v61, v62, v63, v64, v65, v66, v67, v68, rfl, ⟨?_, ?_, ?_, ?_, ?_, ?_, ?_, ?_, ?_, ?_, ?_, ?_, ?_, ?_, ?_, ?_, ?_, ?_, ?_⟩⟩
                        · exact by simpa using H.fr
                        · exact H.m
                        · exact H.r
                        · exact H.bx
                        · exact fun hl => H.h0 (by simpa using hl)
                        · exact fun hl => H.h1 (by simpa using hl)
                        · exact fun hl => H.h2 (by simpa using hl)
                        · exact fun hl => H.h3 (by simpa using hl)
                        · exact fun _ => rfl
                        · exact fun hl => H.h5 (by simpa using hl)
                        · exact fun hl => H.h6 (by simpa using hl)
                        · exact fun hl => H.h7 (by simpa using hl)
                        · exact fun hl => H.h8 (by simpa using hl)
                        · exact fun hl => H.h9 (by simpa using hl)
                        · exact fun hl => H.h10 (by simpa using hl)
                        · exact fun hl => H.h11 (by simpa using hl)
                        · exact fun hl => H.h13 (by simpa using hl)
                        · exact fun hl => by have := H.o12 (by simpa using hl); simp [this]
                        · exact fun hl => by have := H.o14 (by simpa using hl); simp [this]
                      · -- operation 5
                        have y1 : L 1 = true := by simp [hp]
                        obtain rfl := H.h1 y1
                        have y4 : L 4 = true := by simp [hp]
                        obtain rfl := H.h4 y4
                        go_simp
                        refine Or.inl ?_
                        refine hK _ _ ⟨v56, _, v58, v59, _, _, v62, v63, v64, v65, v66, v67, v68, rfl, ⟨?_, ?_, ?_, ?_, ?_, ?_, ?_, ?_, ?_, ?_, ?_, ?_, ?_, ?_, ?_, ?_, ?_, ?_, ?_⟩⟩
                        · exact by simpa using H.fr
                        · exact H.m
                        · exact H.r
                        · exact H.bx
                        · exact fun hl => H.h0 (by simpa using hl)
                        · exact fun hl => H.h1 (by simpa using hl)
                        · exact fun hl => H.h2 (by simpa using hl)
                        · exact fun hl => H.h3 (by simpa using hl)
                        · exact fun hl => H.h4 (by simpa using hl)
                        · exact fun _ => rfl
                        · exact fun hl => H.h6 (by simpa using hl)
                        · exact fun hl => H.h7 (by simpa using hl)
                        · exact fun hl => H.h8 (by simpa using hl)
                        · exact fun hl => H.h9 (by simpa using hl)
                        · exact fun hl => H.h10 (by simpa using hl)
                        · exact fun hl => H.h11 (by simpa using hl)
                        · exact fun hl => H.h13 (by simpa using hl)
                        · exact fun hl => by have := H.o12 (by simpa using hl); simp [this]
                        · exact fun hl => by have := H.o14 (by simpa using hl); simp [this]
                      · -- operation 6
                        go_simp
                        refine Or.inl ?_
                        refine hK _ _ ⟨v56, v57, v58, v59, v60, v61, _, v63, v64, v65, v66, v67, v68, rfl, ⟨?_, ?_, ?_, ?_, ?_, ?_, ?_, ?_, ?_, ?_, ?_, ?_, ?_, ?_, ?_, ?_, ?_, ?_, ?_⟩⟩
                        · exact by simpa using H.fr
                        · exact H.m
                        · exact H.r
                        · exact H.bx
                        · exact fun hl => H.h0 (by simpa using hl)
                        · exact fun hl => H.h1 (by simpa using hl)
                        · exact fun hl => H.h2 (by simpa using hl)
                        · exact fun hl => H.h3 (by simpa using hl)
                        · exact fun hl => H.h4 (by simpa using hl)
                        · exact fun hl => H.h5 (by simpa using hl)
                        · exact fun _ => rfl
                        · exact fun hl => H.h7 (by simpa using hl)
                        · exact fun hl => H.h8 (by simpa using hl)
                        · exact fun hl => H.h9 (by simpa using hl)
                        · exact fun hl => H.h10 (by simpa using hl)
                        · exact fun hl => H.h11 (by simpa using hl)
                        · exact fun hl => H.h13 (by simpa using hl)
                        · exact fun hl => by have := H.o12 (by simpa using hl); simp [this]
                        · exact fun hl => by have := H.o14 (by simpa using hl); simp [this]
                      · -- operation 7
                        have y6 : L 6 = true := by simp [hp]
                        obtain rfl := H.h6 y6
                        have n14 : L 14 = false := by cases e : L 14 with | false => rfl | true => exact absurd (H.o14 e) (by simp [hL])
                        have cf := H.fr.facts
                        rw [n14] at cf
                        obtain ⟨_, _, _, _, c2, _, _, _⟩ := cf
                        simp only [Bool.false_eq_true, if_false] at c2
                        go_simp
                        refine Or.inl ?_
                        refine hK _ _ ⟨v56, v57, v58, v59, v60, v61, _, _, v64, v65, v66, v67, v68, rfl, ⟨?_, ?_, ?_, ?_, ?_, ?_, ?_, ?_, ?_, ?_, ?_, ?_, ?_, ?_, ?_, ?_, ?_, ?_, ?_⟩⟩
                        · exact by simpa using H.fr
                        · exact H.m
                        · exact H.r
                        · exact H.bx
                        · exact fun hl => H.h0 (by simpa using hl)
                        · exact fun hl => H.h1 (by simpa using hl)
                        · exact fun hl => H.h2 (by simpa using hl)
                        · exact fun hl => H.h3 (by simpa using hl)
                        · exact fun hl => H.h4 (by simpa using hl)
                        · exact fun hl => H.h5 (by simpa using hl)
                        · exact fun hl => H.h6 (by simpa using hl)
                        · exact fun _ => rfl
                        · exact fun hl => H.h8 (by simpa using hl)
                        · exact fun hl => H.h9 (by simpa using hl)
                        · exact fun hl => H.h10 (by simpa using hl)
                        · exact fun hl => H.h11 (by simpa using hl)
                        · exact fun hl => H.h13 (by simpa using hl)
                        · exact fun hl => by have := H.o12 (by simpa using hl); simp [this]
                        · exact fun hl => by have := H.o14 (by simpa using hl); simp [this]
                      · -- operation 8
                        go_simp
                        refine Or.inl ?_
                        refine hK _ _ ⟨v56, v57, v58, v59, v60, v61, v62, v63, _, v65, v66, v67, v68, rfl, ⟨?_, ?_, ?_, ?_, ?_, ?_, ?_, ?_, ?_, ?_, ?_, ?_, ?_, ?_, ?_, ?_, ?_, ?_, ?_⟩⟩
                        · exact by simpa using H.fr
                        · exact H.m
                        · exact H.r
                        · exact H.bx
                        · exact fun hl => H.h0 (by simpa using hl)
                        · exact fun hl => H.h1 (by simpa using hl)
                        · exact fun hl => H.h2 (by simpa using hl)
                        · exact fun hl => H.h3 (by simpa using hl)
                        · exact fun hl => H.h4 (by simpa using hl)
                        · exact fun hl => H.h5 (by simpa using hl)
                        · exact fun hl => H.h6 (by simpa using hl)
                        · exact fun hl => H.h7 (by simpa using hl)
                        · exact fun _ => rfl
                        · exact fun hl => H.h9 (by simpa using hl)
                        · exact fun hl => H.h10 (by simpa using hl)
                        · exact fun hl => H.h11 (by simpa using hl)
                        · exact fun hl => H.h13 (by simpa using hl)
                        · exact fun hl => by have := H.o12 (by simpa using hl); simp [this]
                        · exact fun hl => by have := H.o14 (by simpa using hl); simp [this]
                      · -- operation 9
                        have y8 : L 8 = true := by simp [hp]
                        obtain rfl := H.h8 y8
                        have c2 : Wd.cell? ⟨b, 2, none⟩ = some (.int .i64 n3) := by rw [blk_cell H.bx]; rfl
                        go_simp
                        refine Or.inl ?_
                        refine hK _ _ ⟨v56, v57, v58, v59, v60, v61, v62, v63, _, _, v66, v67, v68, rfl, ⟨?_, ?_, ?_, ?_, ?_, ?_, ?_, ?_, ?_, ?_, ?_, ?_, ?_, ?_, ?_, ?_, ?_, ?_, ?_⟩⟩
                        · exact by simpa using H.fr
                        · exact H.m
                        · exact H.r
                        · exact H.bx
                        · exact fun hl => H.h0 (by simpa using hl)
                        · exact fun hl => H.h1 (by simpa using hl)
                        · exact fun hl => H.h2 (by simpa using hl)
                        · exact fun hl => H.h3 (by simpa using hl)
                        · exact fun hl => H.h4 (by simpa using hl)
                        · exact fun hl => H.h5 (by simpa using hl)
                        · exact fun hl => H.h6 (by simpa using hl)
                        · exact fun hl => H.h7 (by simpa using hl)
                        · exact fun hl => H.h8 (by simpa using hl)
                        · exact fun _ => rfl
                        · exact fun hl => H.h10 (by simpa using hl)
                        · exact fun hl => H.h11 (by simpa using hl)
                        · exact fun hl => H.h13 (by simpa using hl)
                        · exact fun hl => by have := H.o12 (by simpa using hl); simp [this]
                        · exact fun hl => by have := H.o14 (by simpa using hl); simp [this]
                      · -- operation 10
                        have y7 : L 7 = true := by simp [hp]
                        obtain rfl := H.h7 y7
                        have y9 : L 9 = true := by simp [hp]
                        obtain rfl := H.h9 y9
                        go_simp
                        refine Or.inl ?_
                        refine hK _ _ ⟨v56, v57, v58, v59, v60, v61, v62, _, v64, _, _, v67, v68, rfl, ⟨?_, ?_, ?_, ?_, ?_, ?_, ?_, ?_, ?_, ?_, ?_, ?_, ?_, ?_, ?_, ?_, ?_, ?_, ?_⟩⟩
                        · exact by simpa using H.fr
                        · exact H.m
                        · exact H.r
                        · exact H.bx
                        · exact fun hl => H.h0 (by simpa using hl)
                        · exact fun hl => H.h1 (by simpa using hl)
                        · exact fun hl => H.h2 (by simpa using hl)
                        · exact fun hl => H.h3 (by simpa using hl)
                        · exact fun hl => H.h4 (by simpa using hl)
                        · exact fun hl => H.h5 (by simpa using hl)
                        · exact fun hl => H.h6 (by simpa using hl)
                        · exact fun hl => H.h7 (by simpa using hl)
                        · exact fun hl => H.h8 (by simpa using hl)
                        · exact fun hl => H.h9 (by simpa using hl)
                        · exact fun _ => rfl
                        · exact fun hl => H.h11 (by simpa using hl)
                        · exact fun hl => H.h13 (by simpa using hl)
                        · exact fun hl => by have := H.o12 (by simpa using hl); simp [this]
                        · exact fun hl => by have := H.o14 (by simpa using hl); simp [this]
                      · -- operation 11
                        go_simp
                        refine Or.inl ?_
                        refine hK _ _ ⟨v56, v57, v58, v59, v60, v61, v62, v63, v64, v65, v66, _, v68, rfl, ⟨?_, ?_, ?_, ?_, ?_, ?_, ?_, ?_, ?_, ?_, ?_, ?_, ?_, ?_, ?_, ?_, ?_, ?_, ?_⟩⟩
                        · exact by simpa using H.fr
                        · exact H.m
                        · exact H.r
                        · exact H.bx
                        · exact fun hl => H.h0 (by simpa using hl)
                        · exact fun hl => H.h1 (by simpa using hl)
                        · exact fun hl => H.h2 (by simpa using hl)
                        · exact fun hl => H.h3 (by simpa using hl)
                        · exact fun hl => H.h4 (by simpa using hl)
                        · exact fun hl => H.h5 (by simpa using hl)
                        · exact fun hl => H.h6 (by simpa using hl)
                        · exact fun hl => H.h7 (by simpa using hl)
                        · exact fun hl => H.h8 (by simpa using hl)
                        · exact fun hl => H.h9 (by simpa using hl)
                        · exact fun hl => H.h10 (by simpa using hl)
                        · exact fun _ => rfl
                        · exact fun hl => H.h13 (by simpa using hl)
                        · exact fun hl => by have := H.o12 (by simpa using hl); simp [this]
                        · exact fun hl => by have := H.o14 (by simpa using hl); simp [this]
                      · -- operation 12
                        have y11 : L 11 = true := by simp [hp]
                        obtain rfl := H.h11 y11
                        have y5 : L 5 = true := by simp [hp]
                        obtain rfl := H.h5 y5
                        have y1 : L 1 = true := by simp [hp]
                        obtain ⟨_, _, _, c1, c2, _, f1, f2⟩ := H.fr.facts
                        go_simp
                        refine Or.inl ?_
                        refine hK _ _ ⟨v56, v57, v58, v59, v60, _, v62, v63, v64, v65, v66, _, v68, rfl, ⟨?_, ?_, ?_, ?_, ?_, ?_, ?_, ?_, ?_, ?_, ?_, ?_, ?_, ?_, ?_, ?_, ?_, ?_, ?_⟩⟩
                        · exact by have := H.fr.put 1 (mx o2 y) (x, mx o2 y, (if L 14 = true then z else o3)) rfl; simpa [hL] using this
                        · exact H.m.set (by have := HBW.out; omega) _
                        · exact H.r.put (b := W.heap.size + 3) H.fr.o (by decide)
                        · exact (Below.heap_setCell _ _ _ _ (by show b ≠ W.heap.size + 3; have := HX1.out; omega)).trans H.bx
                        · exact fun hl => H.h0 (by simpa using hl)
                        · exact fun hl => H.h1 (by simpa using hl)
                        · exact fun hl => H.h2 (by simpa using hl)
                        · exact fun hl => H.h3 (by simpa using hl)
                        · exact fun hl => H.h4 (by simpa using hl)
                        · exact fun _ => rfl
                        · exact fun hl => H.h6 (by simpa using hl)
                        · exact fun hl => H.h7 (by simpa using hl)
                        · exact fun hl => H.h8 (by simpa using hl)
                        · exact fun hl => H.h9 (by simpa using hl)
                        · exact fun hl => H.h10 (by simpa using hl)
                        · exact fun hl => H.h11 (by simpa using hl)
                        · exact fun hl => H.h13 (by simpa using hl)
                        · exact fun _ => by simp [y1]
                        · exact fun hl => by have := H.o14 (by simpa using hl); simp [this]
                      · -- operation 13
                        go_simp
                        refine Or.inl ?_
                        refine hK _ _ ⟨v56, v57, v58, v59, v60, v61, v62, v63, v64, v65, v66, v67, _, rfl, ⟨?_, ?_, ?_, ?_, ?_, ?_, ?_, ?_, ?_, ?_, ?_, ?_, ?_, ?_, ?_, ?_, ?_, ?_, ?_⟩⟩
                        · exact by simpa using H.fr
                        · exact H.m
                        · exact H.r
                        · exact H.bx
                        · exact fun hl => H.h0 (by simpa using hl)
                        · exact fun hl => H.h1 (by simpa using hl)
                        · exact fun hl => H.h2 (by simpa using hl)
                        · exact fun hl => H.h3 (by simpa using hl)
                        · exact fun hl => H.h4 (by simpa using hl)
                        · exact fun hl => H.h5 (by simpa using hl)
                        · exact fun hl => H.h6 (by simpa using hl)
                        · exact fun hl => H.h7 (by simpa using hl)
                        · exact fun hl => H.h8 (by simpa using hl)
                        · exact fun hl => H.h9 (by simpa using hl)
                        · exact fun hl => H.h10 (by simpa using hl)
                        · exact fun hl => H.h11 (by simpa using hl)
                        · exact fun _ => rfl
                        · exact fun hl => by have := H.o12 (by simpa using hl); simp [this]
                        · exact fun hl => by have := H.o14 (by simpa using hl); simp [this]
                      · -- operation 14
                        have y13 : L 13 = true := by simp [hp]
                        obtain rfl := H.h13 y13
                        have y10 : L 10 = true := by simp [hp]
                        obtain rfl := H.h10 y10
                        have y7 : L 7 = true := by simp [hp]
                        obtain ⟨_, _, _, c1, c2, _, f1, f2⟩ := H.fr.facts
                        go_simp
                        refine Or.inl ?_
                        refine hK _ _ ⟨v56, v57, v58, v59, v60, v61, v62, v63, v64, v65, _, v67, _, rfl, ⟨?_, ?_, ?_, ?_, ?_, ?_, ?_, ?_, ?_, ?_, ?_, ?_, ?_, ?_, ?_, ?_, ?_, ?_, ?_⟩⟩
                        · exact by have := H.fr.put 2 z (x, (if L 12 = true then mx o2 y else o2), z) rfl; simpa [hL] using this
                        · exact H.m.set (by have := HBW.out; omega) _
                        · exact H.r.put (b := W.heap.size + 3) H.fr.o (by decide)
                        · exact (Below.heap_setCell _ _ _ _ (by show b ≠ W.heap.size + 3; have := HX1.out; omega)).trans H.bx
                        · exact fun hl => H.h0 (by simpa using hl)
                        · exact fun hl => H.h1 (by simpa using hl)
                        · exact fun hl => H.h2 (by simpa using hl)
                        · exact fun hl => H.h3 (by simpa using hl)
                        · exact fun hl => H.h4 (by simpa using hl)
                        · exact fun hl => H.h5 (by simpa using hl)
                        · exact fun hl => H.h6 (by simpa using hl)
                        · exact fun hl => H.h7 (by simpa using hl)
                        · exact fun hl => H.h8 (by simpa using hl)
                        · exact fun hl => H.h9 (by simpa using hl)
                        · exact fun _ => rfl
                        · exact fun hl => H.h11 (by simpa using hl)
                        · exact fun hl => H.h13 (by simpa using hl)
                        · exact fun hl => by have := H.o12 (by simpa using hl); simp [this]
                        · exact fun _ => by simp [y7]
                    case fin2 =>
                      rintro L a Wd hall ⟨v56, v57, v58, v59, v60, v61, v62, v63, v64, v65, v66, v67, v68, rfl, H⟩
                      have hF := H.fr
                      rw [if_pos (hall 12 (by decide)), if_pos (hall 14 (by decide))] at hF
                      have HFd := Aside0.mk hF
                      have HMd := Aside0.mk H.m
                      have HRd := Aside0.mk H.r
                      have HEd := Aside0.mk (hE.kept _ _ B M HEnv.out HM.out hF.g)
                      clear H hall hF hy hy' hzz hzz'
                      go_wp2
                      go_roundg k1
                      case measure => omega
                      case rel => exact ⟨i + 1, (x, mx o2 y, z), M3, rfl, ⟨by have := HI.out; omega⟩, ⟨by have := HK.out; omega⟩, ⟨by rw [← HUP.out]; exact HRN3.out⟩, HFd, HMd, HEd, HRd⟩
                  · have e2' : decide (x < o1) = false := decide_eq_false e2
                    have E1 := Aside0.mk e1
                    have E2 := Aside0.mk e2
                    clear e1 e2
                    go_wp2
                    have e1 := E1.out
                    have e2 := E2.out
                    have FD_ := HFc
                    have MD_ := HMc
                    have RD_ := HRc
                    have BD_ := HX
                    obtain ⟨y, hy⟩ : ∃ y : Int, wrap64 (n2 + 1) = y := ⟨_, rfl⟩
                    obtain ⟨z, hzz⟩ : ∃ z : Int, wrap64 (o3 + n3) = z := ⟨_, rfl⟩
                    have hy' : IntKind.i64.wrap (n2 + 1) = y := (i64_w _).trans hy
                    have hzz' : IntKind.i64.wrap (o3 + n3) = z := (i64_w _).trans hzz
                    have HUP := Aside0.mk (show plUpd (o1, o2, o3) (n1, n2, n3) = (o1, mx o2 y, z) from by simp only [plUpd, hx, hy, hzz]; rw [if_neg (by omega)])
                    clear hx
                    refine region_inv (J := fun L a Wd => ∃ v56 v57 v58 v59 v60 v61 v62 v63 v64 v65 v66 v67 v68 : Value, a = { tmps := #[Value.agg #[Value.func (Fn.func 67) #[] #[.pointer (some ⟨Bg, 0, none⟩)], Value.map (some B)], Value.string s, Value.pointer (some { block := W.heap.size, off := 0 }), undef, Value.pointer (some { block := W.heap.size + 1, off := 0 }), Value.pointer (some { block := W.heap.size + 1 + 1, off := 0 }), Value.bool false, Value.pointer (some { block := W.heap.size + 1 + 1 + 1, off := 0 }), undef, Value.int IntKind.i64 m, Value.pointer (some { block := b, off := 0 }), Value.tuple #[Value.agg #[Value.int IntKind.i64 0, Value.int IntKind.i64 0, Value.int IntKind.i64 0], Value.bool false], Value.pointer (some { block := W.heap.size, off := 1 }), Value.map (some B), Value.string s, Value.tuple #[Value.agg #[Value.int IntKind.i64 0, Value.int IntKind.i64 0, Value.int IntKind.i64 0], Value.bool false], Value.agg #[Value.int IntKind.i64 0, Value.int IntKind.i64 0, Value.int IntKind.i64 0], Value.bool false, Value.bool false, undef, Value.agg #[Value.int IntKind.i64 (-1), Value.int IntKind.i64 (-1), Value.int IntKind.i64 0], Value.pointer (some { block := W.heap.size, off := 0 }), Value.func (Fn.func 67) #[] #[.pointer (some ⟨Bg, 0, none⟩)], Value.string s, Value.bool true, Value.agg #[Value.int IntKind.i64 0, Value.int IntKind.i64 0, Value.int IntKind.i64 1], Value.string s, Value.slice (some { block := g, off := 0 }) ms.length c6, Value.int IntKind.i64 (ms.length : Int), Value.int IntKind.i64 i, Value.bool true, Value.pointer (some { block := g, off := i.toNat }), Value.int IntKind.i64 m, v33, v34, v35, v36, Value.agg #[Value.int IntKind.i64 n1, Value.int IntKind.i64 n2, Value.int IntKind.i64 n3], Value.pointer (some { block := b, off := 2 }), Value.int IntKind.i64 n3, Value.bool false, Value.pointer (some { block := W.heap.size + 1 + 1 + 1, off := 0 }), Value.int IntKind.i64 o1, Value.bool false, Value.bool false, Value.pointer (some { block := b, off := 0 }), Value.int IntKind.i64 n1, Value.int IntKind.i64 x, Value.pointer (some { block := W.heap.size + 1 + 1 + 1, off := 0 }), Value.int IntKind.i64 o1, Value.bool false, Value.bool false, u52, u53, u54, u55, v56, v57, v58, v59, v60, v61, v62, v63, v64, v65, v66, v67, v68, u69, undef, undef, undef, undef, undef], defers := [] } ∧ plR2 W B (.func (.func 67) #[] #[.pointer (some ⟨Bg, 0, none⟩)]) b ms (.slice (some ⟨g, 0, none⟩) ms.length c6) o1 o2 o3 n1 n2 n3 y z M3 L v56 v57 v58 v59 v60 v61 v62 v63 v64 v65 v66 v67 v68 Wd) (by kernel_rfl) (by kernel_rfl) ?start2 ?step2 ?fin2
                    case start2 => exact ⟨_, _, _, _, _, _, _, _, _, _, _, _, _, rfl, ⟨by simpa using FD_.out.kept HBW.out (plGrown (below_drew1 (Below.refl _ _)) _), MD_.out.below (below_drew1 (Below.refl _ _)), RD_.out.kept (plGrown (below_drew1 (Below.refl _ _)) _) HBW.out, BD_.out, nofun, nofun, nofun, nofun, nofun, nofun, nofun, nofun, nofun, nofun, nofun, nofun, nofun, nofun, nofun⟩⟩
                    case step2 =>
                      rintro L a Wd j ob ho hL hp ⟨v56, v57, v58, v59, v60, v61, v62, v63, v64, v65, v66, v67, v68, rfl, H⟩
                      have hj : j < 15 := (Array.getElem?_eq_some_iff.1 ho).1
                      rcases (show j = 0 ∨ j = 1 ∨ j = 2 ∨ j = 3 ∨ j = 4 ∨ j = 5 ∨ j = 6 ∨ j = 7 ∨ j = 8 ∨ j = 9 ∨ j = 10 ∨ j = 11 ∨ j = 12 ∨ j = 13 ∨ j = 14 by omega) with rfl | rfl | rfl | rfl | rfl | rfl | rfl | rfl | rfl | rfl | rfl | rfl | rfl | rfl | rfl
                      all_goals (obtain rfl : _ = ob := Option.some.inj (show some _ = some ob from ho); simp [Region.binds] at hp; refine plOp_of rfl (fun K hK => ?_))
                      · -- operation 0
                        go_simp
                        refine Or.inl ?_
                        refine hK _ _ ⟨_, v57, v58, v59, v60, v61, v62, v63, v64, v65, v66, v67, v68, rfl, ⟨?_, ?_, ?_, ?_, ?_, ?_, ?_, ?_, ?_, ?_, ?_, ?_, ?_, ?_, ?_, ?_, ?_, ?_, ?_⟩⟩
                        · exact by simpa using H.fr
                        · exact H.m
                        · exact H.r
                        · exact H.bx
                        · exact fun _ => rfl
                        · exact fun hl => H.h1 (by simpa using hl)
                        · exact fun hl => H.h2 (by simpa using hl)
                        · exact fun hl => H.h3 (by simpa using hl)
                        · exact fun hl => H.h4 (by simpa using hl)
                        · exact fun hl => H.h5 (by simpa using hl)
                        · exact fun hl => H.h6 (by simpa using hl)
                        · exact fun hl => H.h7 (by simpa using hl)
                        · exact fun hl => H.h8 (by simpa using hl)
                        · exact fun hl => H.h9 (by simpa using hl)
                        · exact fun hl => H.h10 (by simpa using hl)
                        · exact fun hl => H.h11 (by simpa using hl)
                        · exact fun hl => H.h13 (by simpa using hl)
                        · exact fun hl => by have := H.o12 (by simpa using hl); simp [this]
                        · exact fun hl => by have := H.o14 (by simpa using hl); simp [this]
                      · -- operation 1
                        have y0 : L 0 = true := by simp [hp]
                        obtain rfl := H.h0 y0
                        have n12 : L 12 = false := by cases e : L 12 with | false => rfl | true => exact absurd (H.o12 e) (by simp [hL])
                        have cf := H.fr.facts
                        rw [n12] at cf
                        obtain ⟨_, _, _, c1, _, _, _, _⟩ := cf
                        simp only [Bool.false_eq_true, if_false] at c1
                        go_simp
                        refine Or.inl ?_
                        refine hK _ _ ⟨_, _, v58, v59, v60, v61, v62, v63, v64, v65, v66, v67, v68, rfl, ⟨?_, ?_, ?_, ?_, ?_, ?_, ?_, ?_, ?_, ?_, ?_, ?_, ?_, ?_, ?_, ?_, ?_, ?_, ?_⟩⟩
                        · exact by simpa using H.fr
                        · exact H.m
                        · exact H.r
                        · exact H.bx
                        · exact fun hl => H.h0 (by simpa using hl)
                        · exact fun _ => rfl
                        · exact fun hl => H.h2 (by simpa using hl)
                        · exact fun hl => H.h3 (by simpa using hl)
                        · exact fun hl => H.h4 (by simpa using hl)
                        · exact fun hl => H.h5 (by simpa using hl)
                        · exact fun hl => H.h6 (by simpa using hl)
                        · exact fun hl => H.h7 (by simpa using hl)
                        · exact fun hl => H.h8 (by simpa using hl)
                        · exact fun hl => H.h9 (by simpa using hl)
                        · exact fun hl => H.h10 (by simpa using hl)
                        · exact fun hl => H.h11 (by simpa using hl)
                        · exact fun hl => H.h13 (by simpa using hl)
                        · exact fun hl => by have := H.o12 (by simpa using hl); simp [this]
                        · exact fun hl => by have := H.o14 (by simpa using hl); simp [this]
                      · -- operation 2
                        go_simp
                        refine Or.inl ?_
                        refine hK _ _ ⟨v56, v57, _, v59, v60, v61, v62, v63, v64, v65, v66, v67, v68, rfl, ⟨?_, ?_, ?_, ?_, ?_, ?_, ?_, ?_, ?_, ?_, ?_, ?_, ?_, ?_, ?_, ?_, ?_, ?_, ?_⟩⟩
                        · exact by simpa using H.fr
                        · exact H.m
                        · exact H.r
                        · exact H.bx
                        · exact fun hl => H.h0 (by simpa using hl)
                        · exact fun hl => H.h1 (by simpa using hl)
                        · exact fun _ => rfl
                        · exact fun hl => H.h3 (by simpa using hl)
                        · exact fun hl => H.h4 (by simpa using hl)
                        · exact fun hl => H.h5 (by simpa using hl)
                        · exact fun hl => H.h6 (by simpa using hl)
                        · exact fun hl => H.h7 (by simpa using hl)
                        · exact fun hl => H.h8 (by simpa using hl)
                        · exact fun hl => H.h9 (by simpa using hl)
                        · exact fun hl => H.h10 (by simpa using hl)
                        · exact fun hl => H.h11 (by simpa using hl)
                        · exact fun hl => H.h13 (by simpa using hl)
                        · exact fun hl => by have := H.o12 (by simpa using hl); simp [this]
                        · exact fun hl => by have := H.o14 (by simpa using hl); simp [this]
                      · -- operation 3
                        have y2 : L 2 = true := by simp [hp]
                        obtain rfl := H.h2 y2
                        have c1 : Wd.cell? ⟨b, 1, none⟩ = some (.int .i64 n2) := by rw [blk_cell H.bx]; rfl
                        go_simp
                        refine Or.inl ?_
                        refine hK _ _ ⟨v56, v57, _, _, v60, v61, v62, v63, v64, v65, v66, v67, v68, rfl, ⟨?_, ?_, ?_, ?_, ?_, ?_, ?_, ?_, ?_, ?_, ?_, ?_, ?_, ?_, ?_, ?_, ?_, ?_, ?_⟩⟩
                        · exact by simpa using H.fr
                        · exact H.m
                        · exact H.r
                        · exact H.bx
                        · exact fun hl => H.h0 (by simpa using hl)
                        · exact fun hl => H.h1 (by simpa using hl)
                        · exact fun hl => H.h2 (by simpa using hl)
                        · exact fun _ => rfl
                        · exact fun hl => H.h4 (by simpa using hl)
                        · exact fun hl => H.h5 (by simpa using hl)
                        · exact fun hl => H.h6 (by simpa using hl)
                        · exact fun hl => H.h7 (by simpa using hl)
                        · exact fun hl => H.h8 (by simpa using hl)
                        · exact fun hl => H.h9 (by simpa using hl)
                        · exact fun hl => H.h10 (by simpa using hl)
                        · exact fun hl => H.h11 (by simpa using hl)
                        · exact fun hl => H.h13 (by simpa using hl)
                        · exact fun hl => by have := H.o12 (by simpa using hl); simp [this]
                        · exact fun hl => by have := H.o14 (by simpa using hl); simp [this]
                      · -- operation 4
                        have y3 : L 3 = true := by simp [hp]
                        obtain rfl := H.h3 y3
                        go_simp
                        refine Or.inl ?_
                        refine hK _ _ ⟨v56, v57, v58, _, _, v61, v62, v63, v64, v65, v66, v67, v68, rfl, ⟨?_, ?_, ?_, ?_, ?_, ?_, ?_, ?_, ?_, ?_, ?_, ?_, ?_, ?_, ?_, ?_, ?_, ?_, ?_⟩⟩
                        · exact by simpa using H.fr
                        · exact H.m
                        · exact H.r
                        · exact H.bx
                        · exact fun hl => H.h0 (by simpa using hl)
                        · exact fun hl => H.h1 (by simpa using hl)
                        · exact fun hl => H.h2 (by simpa using hl)
                        · exact fun hl => H.h3 (by simpa using hl)
                        · exact fun _ => rfl
                        · exact fun hl => H.h5 (by simpa using hl)
                        · exact fun hl => H.h6 (by simpa using hl)
                        · exact fun hl => H.h7 (by simpa using hl)
                        · exact fun hl => H.h8 (by simpa using hl)
                        · exact fun hl => H.h9 (by simpa using hl)
                        · exact fun hl => H.h10 (by simpa using hl)
                        · exact fun hl => H.h11 (by simpa using hl)
                        · exact fun hl => H.h13 (by simpa using hl)
                        · exact fun hl => by have := H.o12 (by simpa using hl); simp [this]
                        · exact fun hl => by have := H.o14 (by simpa using hl); simp [this]
                      · -- operation 5
                        have y1 : L 1 = true := by simp [hp]
                        obtain rfl := H.h1 y1
                        have y4 : L 4 = true := by simp [hp]
                        obtain rfl := H.h4 y4
                        go_simp
                        refine Or.inl ?_
                        refine hK _ _ ⟨v56, _, v58, v59, _, _, v62, v63, v64, v65, v66, v67, v68, rfl, ⟨?_, ?_, ?_, ?_, ?_, ?_, ?_, ?_, ?_, ?_, ?_, ?_, ?_, ?_, ?_, ?_, ?_, ?_, ?_⟩⟩
                        · exact by simpa using H.fr
                        · exact H.m
                        · exact H.r
                        · exact H.bx
                        · exact fun hl => H.h0 (by simpa using hl)
                        · exact fun hl => H.h1 (by simpa using hl)
                        · exact fun hl => H.h2 (by simpa using hl)
                        · exact fun hl => H.h3 (by simpa using hl)
                        · exact fun hl => H.h4 (by simpa using hl)
                        · exact fun _ => rfl
                        · exact fun hl => H.h6 (by simpa using hl)
                        · exact fun hl => H.h7 (by simpa using hl)
                        · exact fun hl => H.h8 (by simpa using hl)
                        · exact fun hl => H.h9 (by simpa using hl)
                        · exact fun hl => H.h10 (by simpa using hl)
                        · exact fun hl => H.h11 (by simpa using hl)
                        · exact fun hl => H.h13 (by simpa using hl)
                        · exact fun hl => by have := H.o12 (by simpa using hl); simp [this]
                        · exact fun hl => by have := H.o14 (by simpa using hl); simp [this]
                      · -- operation 6
                        go_simp
                        refine Or.inl ?_
                        refine hK _ _ ⟨v56, v57, v58, v59, v60, v61, _, v63, v64, v65, v66, v67, v68, rfl, ⟨?_, ?_, ?_, ?_, ?_, ?_, ?_, ?_, ?_, ?_, ?_, ?_, ?_, ?_, ?_, ?_, ?_, ?_, ?_⟩⟩
                        · exact by simpa using H.fr
                        · exact H.m
                        · exact H.r
                        · exact H.bx
                        · exact fun hl => H.h0 (by simpa using hl)
                        · exact fun hl => H.h1 (by simpa using hl)
                        · exact fun hl => H.h2 (by simpa using hl)
                        · exact fun hl => H.h3 (by simpa using hl)
                        · exact fun hl => H.h4 (by simpa using hl)
                        · exact fun hl => H.h5 (by simpa using hl)
                        · exact fun _ => rfl
                        · exact fun hl => H.h7 (by simpa using hl)
                        · exact fun hl => H.h8 (by simpa using hl)
                        · exact fun hl => H.h9 (by simpa using hl)
                        · exact fun hl => H.h10 (by simpa using hl)
                        · exact fun hl => H.h11 (by simpa using hl)
                        · exact fun hl => H.h13 (by simpa using hl)
                        · exact fun hl => by have := H.o12 (by simpa using hl); simp [this]
                        · exact fun hl => by have := H.o14 (by simpa using hl); simp [this]
                      · -- operation 7
                        have y6 : L 6 = true := by simp [hp]
                        obtain rfl := H.h6 y6
                        have n14 : L 14 = false := by cases e : L 14 with | false => rfl | true => exact absurd (H.o14 e) (by simp [hL])
                        have cf := H.fr.facts
                        rw [n14] at cf
                        obtain ⟨_, _, _, _, c2, _, _, _⟩ := cf
                        simp only [Bool.false_eq_true, if_false] at c2
                        go_simp
                        refine Or.inl ?_
                        refine hK _ _ ⟨v56, v57, v58, v59, v60, v61, _, _, v64, v65, v66, v67, v68, rfl, ⟨?_, ?_, ?_, ?_, ?_, ?_, ?_, ?_, ?_, ?_, ?_, ?_, ?_, ?_, ?_, ?_, ?_, ?_, ?_⟩⟩
                        · exact by simpa using H.fr
                        · exact H.m
                        · exact H.r
                        · exact H.bx
                        · exact fun hl => H.h0 (by simpa using hl)
                        · exact fun hl => H.h1 (by simpa using hl)
                        · exact fun hl => H.h2 (by simpa using hl)
                        · exact fun hl => H.h3 (by simpa using hl)
                        · exact fun hl => H.h4 (by simpa using hl)
                        · exact fun hl => H.h5 (by simpa using hl)
                        · exact fun hl => H.h6 (by simpa using hl)
                        · exact fun _ => rfl
                        · exact fun hl => H.h8 (by simpa using hl)
                        · exact fun hl => H.h9 (by simpa using hl)
                        · exact fun hl => H.h10 (by simpa using hl)
                        · exact fun hl => H.h11 (by simpa using hl)
                        · exact fun hl => H.h13 (by simpa using hl)
                        · exact fun hl => by have := H.o12 (by simpa using hl); simp [this]
                        · exact fun hl => by have := H.o14 (by simpa using hl); simp [this]
                      · -- operation 8
                        go_simp
                        refine Or.inl ?_
                        refine hK _ _ ⟨v56, v57, v58, v59, v60, v61, v62, v63, _, v65, v66, v67, v68, rfl, ⟨?_, ?_, ?_, ?_, ?_, ?_, ?_, ?_, ?_, ?_, ?_, ?_, ?_, ?_, ?_, ?_, ?_, ?_, ?_⟩⟩
                        · exact by simpa using H.fr
                        · exact H.m
                        · exact H.r
                        · exact H.bx
                        · exact fun hl => H.h0 (by simpa using hl)
                        · exact fun hl => H.h1 (by simpa using hl)
                        · exact fun hl => H.h2 (by simpa using hl)
                        · exact fun hl => H.h3 (by simpa using hl)
                        · exact fun hl => H.h4 (by simpa using hl)
                        · exact fun hl => H.h5 (by simpa using hl)
                        · exact fun hl => H.h6 (by simpa using hl)
                        · exact fun hl => H.h7 (by simpa using hl)
                        · exact fun _ => rfl
                        · exact fun hl => H.h9 (by simpa using hl)
                        · exact fun hl => H.h10 (by simpa using hl)
                        · exact fun hl => H.h11 (by simpa using hl)
                        · exact fun hl => H.h13 (by simpa using hl)
                        · exact fun hl => by have := H.o12 (by simpa using hl); simp [this]
                        · exact fun hl => by have := H.o14 (by simpa using hl); simp [this]
                      · -- operation 9
                        have y8 : L 8 = true := by simp [hp]
                        obtain rfl := H.h8 y8
                        have c2 : Wd.cell? ⟨b, 2, none⟩ = some (.int .i64 n3) := by rw [blk_cell H.bx]; rfl
                        go_simp
                        refine Or.inl ?_
                        refine hK _ _ ⟨v56, v57, v58, v59, v60, v61, v62, v63, _, _, v66, v67, v68, rfl, ⟨?_, ?_, ?_, ?_, ?_, ?_, ?_, ?_, ?_, ?_, ?_, ?_, ?_, ?_, ?_, ?_, ?_, ?_, ?_⟩⟩
                        · exact by simpa using H.fr
                        · exact H.m
                        · exact H.r
                        · exact H.bx
                        · exact fun hl => H.h0 (by simpa using hl)
                        · exact fun hl => H.h1 (by simpa using hl)
                        · exact fun hl => H.h2 (by simpa using hl)
                        · exact fun hl => H.h3 (by simpa using hl)
                        · exact fun hl => H.h4 (by simpa using hl)
                        · exact fun hl => H.h5 (by simpa using hl)
                        · exact fun hl => H.h6 (by simpa using hl)
                        · exact fun hl => H.h7 (by simpa using hl)
                        · exact fun hl => H.h8 (by simpa using hl)
                        · exact fun _ => rfl
                        · exact fun hl => H.h10 (by simpa using hl)
                        · exact fun hl => H.h11 (by simpa using hl)
                        · exact fun hl => H.h13 (by simpa using hl)
                        · exact fun hl => by have := H.o12 (by simpa using hl); simp [this]
                        · exact fun hl => by have := H.o14 (by simpa using hl); simp [this]
                      · -- operation 10
                        have y7 : L 7 = true := by simp [hp]
                        obtain rfl := H.h7 y7
                        have y9 : L 9 = true := by simp [hp]
                        obtain rfl := H.h9 y9
                        go_simp
                        refine Or.inl ?_
                        refine hK _ _ ⟨v56, v57, v58, v59, v60, v61, v62, _, v64, _, _, v67, v68, rfl, ⟨?_, ?_, ?_, ?_, ?_, ?_, ?_, ?_, ?_, ?_, ?_, ?_, ?_, ?_, ?_, ?_, ?_, ?_, ?_⟩⟩
                        · exact by simpa using H.fr
                        · exact H.m
                        · exact H.r
                        · exact H.bx
                        · exact fun hl => H.h0 (by simpa using hl)
                        · exact fun hl => H.h1 (by simpa using hl)
                        · exact fun hl => H.h2 (by simpa using hl)
                        · exact fun hl => H.h3 (by simpa using hl)
                        · exact fun hl => H.h4 (by simpa using hl)
                        · exact fun hl => H.h5 (by simpa using hl)
                        · exact fun hl => H.h6 (by simpa using hl)
                        · exact fun hl => H.h7 (by simpa using hl)
                        · exact fun hl => H.h8 (by simpa using hl)
                        · exact fun hl => H.h9 (by simpa using hl)
                        · exact fun _ => rfl
                        · exact fun hl => H.h11 (by simpa using hl)
                        · exact fun hl => H.h13 (by simpa using hl)
                        · exact fun hl => by have := H.o12 (by simpa using hl); simp [this]
                        · exact fun hl => by have := H.o14 (by simpa using hl); simp [this]
                      · -- operation 11
                        go_simp
                        refine Or.inl ?_
                        refine hK _ _ ⟨v56, v57, v58, v59, v60, v61, v62, v63, v64, v65, v66, _, v68, rfl, ⟨?_, ?_, ?_, ?_, ?_, ?_, ?_, ?_, ?_, ?_, ?_, ?_, ?_, ?_, ?_, ?_, ?_, ?_, ?_⟩⟩
                        · exact by simpa using H.fr
                        · exact H.m
                        · exact H.r
                        · exact H.bx
                        · exact fun hl => H.h0 (by simpa using hl)
                        · exact fun hl => H.h1 (by simpa using hl)
                        · exact fun hl => H.h2 (by simpa using hl)
                        · exact fun hl => H.h3 (by simpa using hl)
                        · exact fun hl => H.h4 (by simpa using hl)
                        · exact fun hl => H.h5 (by simpa using hl)
                        · exact fun hl => H.h6 (by simpa using hl)
                        · exact fun hl => H.h7 (by simpa using hl)
                        · exact fun hl => H.h8 (by simpa using hl)
                        · exact fun hl => H.h9 (by simpa using hl)
                        · exact fun hl => H.h10 (by simpa using hl)
                        · exact fun _ => rfl
                        · exact fun hl => H.h13 (by simpa using hl)
                        · exact fun hl => by have := H.o12 (by simpa using hl); simp [this]
                        · exact fun hl => by have := H.o14 (by simpa using hl); simp [this]
                      · -- operation 12
                        have y11 : L 11 = true := by simp [hp]
                        obtain rfl := H.h11 y11
                        have y5 : L 5 = true := by simp [hp]
                        obtain rfl := H.h5 y5
                        have y1 : L 1 = true := by simp [hp]
                        obtain ⟨_, _, _, c1, c2, _, f1, f2⟩ := H.fr.facts
                        go_simp
                        refine Or.inl ?_
                        refine hK _ _ ⟨v56, v57, v58, v59, v60, _, v62, v63, v64, v65, v66, _, v68, rfl, ⟨?_, ?_, ?_, ?_, ?_, ?_, ?_, ?_, ?_, ?_, ?_, ?_, ?_, ?_, ?_, ?_, ?_, ?_, ?_⟩⟩
                        · exact by have := H.fr.put 1 (mx o2 y) (o1, mx o2 y, (if L 14 = true then z else o3)) rfl; simpa [hL] using this
                        · exact H.m.set (by have := HBW.out; omega) _
                        · exact H.r.put (b := W.heap.size + 3) H.fr.o (by decide)
                        · exact (Below.heap_setCell _ _ _ _ (by show b ≠ W.heap.size + 3; have := HX1.out; omega)).trans H.bx
                        · exact fun hl => H.h0 (by simpa using hl)
                        · exact fun hl => H.h1 (by simpa using hl)
                        · exact fun hl => H.h2 (by simpa using hl)
                        · exact fun hl => H.h3 (by simpa using hl)
                        · exact fun hl => H.h4 (by simpa using hl)
                        · exact fun _ => rfl
                        · exact fun hl => H.h6 (by simpa using hl)
                        · exact fun hl => H.h7 (by simpa using hl)
                        · exact fun hl => H.h8 (by simpa using hl)
                        · exact fun hl => H.h9 (by simpa using hl)
                        · exact fun hl => H.h10 (by simpa using hl)
                        · exact fun hl => H.h11 (by simpa using hl)
                        · exact fun hl => H.h13 (by simpa using hl)
                        · exact fun _ => by simp [y1]
                        · exact fun hl => by have := H.o14 (by simpa using hl); simp [this]
                      · -- operation 13
                        go_simp
                        refine Or.inl ?_
                        refine hK _ _ ⟨v56, v57, v58, v59, v60, v61, v62, v63, v64, v65, v66, v67, _, rfl, ⟨?_, ?_, ?_, ?_, ?_, ?_, ?_, ?_, ?_, ?_, ?_, ?_, ?_, ?_, ?_, ?_, ?_, ?_, ?_⟩⟩
                        · exact by simpa using H.fr
                        · exact H.m
                        · exact H.r
                        · exact H.bx
                        · exact fun hl => H.h0 (by simpa using hl)
                        · exact fun hl => H.h1 (by simpa using hl)
                        · exact fun hl => H.h2 (by simpa using hl)
                        · exact fun hl => H.h3 (by simpa using hl)
                        · exact fun hl => H.h4 (by simpa using hl)
                        · exact fun hl => H.h5 (by simpa using hl)
                        · exact fun hl => H.h6 (by simpa using hl)
                        · exact fun hl => H.h7 (by simpa using hl)
                        · exact fun hl => H.h8 (by simpa using hl)
                        · exact fun hl => H.h9 (by simpa using hl)
                        · exact fun hl => H.h10 (by simpa using hl)
                        · exact fun hl => H.h11 (by simpa using hl)
                        · exact fun _ => rfl
                        · exact fun hl => by have := H.o12 (by simpa using hl); simp [this]
                        · exact fun hl => by have := H.o14 (by simpa using hl); simp [this]
                      · -- operation 14
                        have y13 : L 13 = true := by simp [hp]
                        obtain rfl := H.h13 y13
                        have y10 : L 10 = true := by simp [hp]
                        obtain rfl := H.h10 y10
                        have y7 : L 7 = true := by simp [hp]
                        obtain ⟨_, _, _, c1, c2, _, f1, f2⟩ := H.fr.facts
                        go_simp
                        refine Or.inl ?_
                        refine hK _ _ ⟨v56, v57, v58, v59, v60, v61, v62, v63, v64, v65, _, v67, _, rfl, ⟨?_, ?_, ?_, ?_, ?_, ?_, ?_, ?_, ?_, ?_, ?_, ?_, ?_, ?_, ?_, ?_, ?_, ?_, ?_⟩⟩
                        · exact by have := H.fr.put 2 z (o1, (if L 12 = true then mx o2 y else o2), z) rfl; simpa [hL] using this
                        · exact H.m.set (by have := HBW.out; omega) _
                        · exact H.r.put (b := W.heap.size + 3) H.fr.o (by decide)
                        · exact (Below.heap_setCell _ _ _ _ (by show b ≠ W.heap.size + 3; have := HX1.out; omega)).trans H.bx
                        · exact fun hl => H.h0 (by simpa using hl)
                        · exact fun hl => H.h1 (by simpa using hl)
                        · exact fun hl => H.h2 (by simpa using hl)
                        · exact fun hl => H.h3 (by simpa using hl)
                        · exact fun hl => H.h4 (by simpa using hl)
                        · exact fun hl => H.h5 (by simpa using hl)
                        · exact fun hl => H.h6 (by simpa using hl)
                        · exact fun hl => H.h7 (by simpa using hl)
                        · exact fun hl => H.h8 (by simpa using hl)
                        · exact fun hl => H.h9 (by simpa using hl)
                        · exact fun _ => rfl
                        · exact fun hl => H.h11 (by simpa using hl)
                        · exact fun hl => H.h13 (by simpa using hl)
                        · exact fun hl => by have := H.o12 (by simpa using hl); simp [this]
                        · exact fun _ => by simp [y7]
                    case fin2 =>
                      rintro L a Wd hall ⟨v56, v57, v58, v59, v60, v61, v62, v63, v64, v65, v66, v67, v68, rfl, H⟩
                      have hF := H.fr
                      rw [if_pos (hall 12 (by decide)), if_pos (hall 14 (by decide))] at hF
                      have HFd := Aside0.mk hF
                      have HMd := Aside0.mk H.m
                      have HRd := Aside0.mk H.r
                      have HEd := Aside0.mk (hE.kept _ _ B M HEnv.out HM.out hF.g)
                      clear H hall hF hy hy' hzz hzz'
                      go_wp2
                      go_roundg k1
                      case measure => omega
                      case rel => exact ⟨i + 1, (o1, mx o2 y, z), M3, rfl, ⟨by have := HI.out; omega⟩, ⟨by have := HK.out; omega⟩, ⟨by rw [← HUP.out]; exact HRN3.out⟩, HFd, HMd, HEd, HRd⟩
theorem plRnd_le {g g' : plM → ByteArray → Option (plF × plM)} (h : ∀ M t, LeO (g M t) (g' M t)) (s : ByteArray) : ∀ (ms : List Int) (o : plF) (M : plM), LeO (plRnd g s ms o M) (plRnd g' s ms o M)
  | [], _, _ => LeO.refl _
  | _ :: ms, _, _ => LeO.bind (LeO.refl _) (fun _ => LeO.bind (h _ _) (fun _ => plRnd_le h s ms _ _))
theorem plOf_le {E E' : ByteArray → Option Bool} (k : Nat) (hE : ∀ s, LeO (E s) (E' s)) : ∀ (d : Nat) (M : plM) (s : ByteArray), LeO (plOf E k d M s) (plOf E' (k + 1) (d + 1) M s)
  | 0, _, _ => LeO.none _
  | d + 1, M, s => by
    simp only [plOf]
    refine LeO.ite ?_ (LeO.refl _)
    cases plFnd M s with
    | some f => exact LeO.refl _
    | none => exact LeO.bind (hE s) (fun _ => LeO.bind (impl_hops.mono s k) (fun _ => LeO.ite (LeO.bind (plRnd_le (fun M t => plOf_le k hE d M t) s _ _ _) (fun _ => LeO.refl _)) (LeO.refl _)))

end Go.Proofs.YtkikpfeipejnlaaDoor.PFnExactFirstFrogMoves
