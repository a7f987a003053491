-- Printed by this session's eprint.py over the kit's print (with this session's own texts for some functions)
import Derived.Test.YtlfhagdhpgmlpaaDoorPFnExactTurnPondx0
import Derived.Test.YtlfhagdhpgmlpaaDoorPFnExactTurnPondx1
namespace Go.Proofs.YtlfhagdhpgmlpaaDoor.PFnExactTurnPond
open Go.RowKit Go.Proofs.YtlfhagdhpgmlpaaDoorW.PrintWords Go.Proofs.YtlfhagdhpgmlpaaDoorW.PrintLast Go.Proofs.YtlfhagdhpgmlpaaDoorW.PrintMore
attribute [local go_sem] max2_int min2_int max_two min_two max_three min_three max_four min_four   -- for this text's walks alone
set_option linter.unusedVariables false
set_option linter.unusedSimpArgs false

/-! ### impl_TurnPond: function 5 -/
theorem impl_TurnPond.disable (w : World) : (callFunc 51 #[]).run Tryd.prog w = .ok (.value (.tuple #[])) w := run_call_mark0 Tryd.func51 (by kernel_rfl) (by kernel_rfl) (by kernel_rfl) .disable (by kernel_rfl) w
theorem impl_TurnPond.enable (w : World) : (callFunc 53 #[]).run Tryd.prog w = .ok (.value (.tuple #[])) w := run_call_mark0 Tryd.func53 (by kernel_rfl) (by kernel_rfl) (by kernel_rfl) .enable (by kernel_rfl) w
theorem impl_TurnPond.acquire (a : Addr) (w : World) : (callFunc 54 #[.pointer (some a)]).run Tryd.prog w = .ok (.value (.tuple #[])) w := run_call_marked Tryd.func54 (by kernel_rfl) (by kernel_rfl) (by kernel_rfl) .acquire (by kernel_rfl) a w
theorem impl_TurnPond.releaseMerge (a : Addr) (w : World) : (callFunc 56 #[.pointer (some a)]).run Tryd.prog w = .ok (.value (.tuple #[])) w := run_call_marked Tryd.func56 (by kernel_rfl) (by kernel_rfl) (by kernel_rfl) .releaseMerge (by kernel_rfl) a w
/-- '(*sync/atomic.Bool).Store(true)', entered as a deferred call: the cell holds 1. -/
theorem impl_TurnPond.store_deferred (a : Addr) (x : Value) (u : FrameMode) (w : World) (hc : w.cell? a = some x) (hz : w.frozen? a = false) :
    CallsD Tryd.prog 35 #[.pointer (some a), .bool true] u w fun e u' w' => u' = u ∧ (e = .returned (.tuple #[]) ∧ w' = w.drew.setCell a (.int .u32 1)) := by
  have hc' : w.drew.cell? a = some x := by go_simp
  have hz' : w.drew.frozen? a = false := by go_simp
  have hst := run_call_store (P := Tryd.prog) Tryd.func43 (by kernel_rfl) (by kernel_rfl) (by kernel_rfl) (by kernel_rfl) (k := .u32) (y := 1) hc' hz'
  go_enter_d Tryd.func35, Tryd.ntmps35
  go_wp2
  go_region_calls
  all_goals (go_end0; exact ⟨rfl, rfl⟩)
set_option maxHeartbeats 4000000 in
set_option maxRecDepth 100000 in
/-- '(*sync.Mutex).Unlock', entered as a deferred call, the lock held and nobody waiting. -/
theorem impl_TurnPond.unlock_deferred (a : Addr) (u : FrameMode) (w : World) (hc : w.cell? a = some (.int .i32 1)) (hz : w.frozen? a = false) :
    CallsD Tryd.prog 34 #[.pointer (some a)] u w fun e u' w' => u' = u ∧ (e = .returned (.tuple #[]) ∧ w' = w.setCell a (.int .i32 0)) := by
  have hd := impl_TurnPond.disable
  have he := impl_TurnPond.enable
  have hr := impl_TurnPond.releaseMerge
  have hadd := run_call_add (P := Tryd.prog) Tryd.func57 (by kernel_rfl) (by kernel_rfl) (by kernel_rfl) .i32 (by kernel_rfl) (y := -1) (s := 0) hc hz (by simp [go_sem]; rfl)
  have hcv := run_convert_to_unsafe (P := Tryd.prog) (src := 102) (dst := 106) Tryd.underlying102 Tryd.underlying106 (by kernel_rfl) hc
  go_enter_d Tryd.func34, Tryd.ntmps34
  go_wp2
  go_end0
  go_wp2
  go_end0
  exact ⟨rfl, rfl⟩
set_option maxHeartbeats 4000000 in
set_option maxRecDepth 100000 in
/-- '(*sync.Mutex).Lock', the lock free. -/
theorem impl_TurnPond.lock_free (a : Addr) (w : World) (hc : w.cell? a = some (.int .i32 0)) (hz : w.frozen? a = false) :
    Calls Tryd.prog 33 #[.pointer (some a)] w fun e w' => e = .returned (.tuple #[]) ∧ w' = w.setCell a (.int .i32 1) := by
  have hd := impl_TurnPond.disable
  have he := impl_TurnPond.enable
  have ha := impl_TurnPond.acquire
  have hcas := run_call_cas_hit (P := Tryd.prog) Tryd.func52 (by kernel_rfl) (by kernel_rfl) (by kernel_rfl) .i32 (by kernel_rfl) (y := 1) hc hz
  have hc' : (w.setCell a (.int .i32 1)).cell? a = some (.int .i32 1) := World.cell?_setCell_same w a _ hc
  have hcv := run_convert_to_unsafe (P := Tryd.prog) (src := 102) (dst := 106) Tryd.underlying102 Tryd.underlying106 (by kernel_rfl) hc'
  go_enter Tryd.func33, Tryd.ntmps33
  go_wp2
  first | go_end0 | (simp only [Exit.inBlock, Exit.then]; refine bodyPost_ret (results_none rfl _ _ _) rfl ?_) | refine bodyPost_ret (results_none rfl _ _ _) rfl ?_
  go_wp2
  go_end0
  exact ⟨rfl, rfl⟩
/-- '(*sync/atomic.Bool).Load': 0 is false. -/
theorem impl_TurnPond.load0 (a : Addr) (W : World) (h0 : W.cell? a = some (.int .u32 0)) : Calls Tryd.prog 25 #[.pointer (some a)] W fun e w' => e = .returned (.bool false) ∧ w' = W := by
  have hl := run_call_load (P := Tryd.prog) Tryd.func32 (by kernel_rfl) (by kernel_rfl) (by kernel_rfl) .u32 (by kernel_rfl) h0
  go_enter Tryd.func25, Tryd.ntmps25
  go_wp2
  go_ret
  exact ⟨rfl, rfl⟩
set_option maxHeartbeats 4000000 in
set_option maxRecDepth 100000 in
/-- '(*sync.Once).doSlow', not yet done and the lock free, over what builds the replacer. -/
theorem impl_TurnPond.slow (B : Nat) (Q : World → Prop) (W : World) (h0 : W.cell? ⟨B, 0, none⟩ = some (.int .u32 0)) (h1 : W.cell? ⟨B, 0 + 1, none⟩ = some (.int .i32 0)) (f1 : W.frozen? ⟨B, 0 + 1, none⟩ = false)
    (hbuild : Calls Tryd.prog 16 #[.pointer (some ⟨B, 0, none⟩)] (W.setCell ⟨B, 0 + 1, none⟩ (.int .i32 1)) fun e w' => e = .returned (.tuple #[]) ∧ w'.cell? ⟨B, 0, none⟩ = some (.int .u32 0) ∧ w'.cell? ⟨B, 0 + 1, none⟩ = some (.int .i32 1) ∧ w'.frozen? ⟨B, 0, none⟩ = false ∧ w'.frozen? ⟨B, 0 + 1, none⟩ = false ∧ Q w') :
    Calls Tryd.prog 26 #[.pointer (some ⟨B, 0, none⟩), .func (.func 16) #[.pointer (some ⟨B, 0, none⟩)] #[]] W fun e w' => e = .returned (.tuple #[]) ∧ ∃ w1, Q w1 ∧ w' = (w1.drew.setCell ⟨B, 0, none⟩ (.int .u32 1)).setCell ⟨B, 0 + 1, none⟩ (.int .i32 0) := by
  have HBU := Aside0.mk hbuild
  clear hbuild
  have hl : (W.setCell ⟨B, 0 + 1, none⟩ (.int .i32 1)).cell? ⟨B, 0, none⟩ = some (.int .u32 0) := (World.cell?_setCell_other _ ⟨B, 0 + 1, none⟩ ⟨B, 0, none⟩ _ (by simp)).trans h0
  have hnot : ∀ (x : Bool) (w : World), (Op.unary .not (.bool x)).run Tryd.prog w = .ok (.bool (!x)) w := fun _ _ => rfl
  go_enter_defers Tryd.func26, Tryd.ntmps26
  go_wp2_with (first | (go_at_call 33; refine (impl_TurnPond.lock_free ⟨B, 0 + 1, none⟩ _ (by go_simp) (by go_simp)).mono ?_; rintro e w' ⟨rfl, rfl⟩) | (go_at_call 25; (refine (impl_TurnPond.load0 _ _ hl).mono ?_); rintro e w3 ⟨rfl, rfl⟩) | (go_at_call 16; (refine HBU.out.mono ?_); rintro e w4 ⟨rfl, g0, g1, z0, z1, hq⟩; have HQ := Aside0.mk hq; clear hq))
  refine leaves_cons (f := 35) (args := #[.pointer (some ⟨B, 0, none⟩), .bool true]) (by simp) (by simp [go_sem]) ?_
  refine (impl_TurnPond.store_deferred ⟨B, 0, none⟩ (.int .u32 0) .returning _ g0 z0).mono ?_
  rintro e u' w'' ⟨rfl, rfl, rfl⟩
  refine leaves_cons (f := 34) (args := #[.pointer (some ⟨B, 0 + 1, none⟩)]) (by simp [settle]) (by simp [go_sem]) ?_
  refine (impl_TurnPond.unlock_deferred ⟨B, 0 + 1, none⟩ _ _ ?_ (by simp [z1])).mono ?_
  · refine (World.cell?_setCell_other _ ⟨B, 0, none⟩ ⟨B, 0 + 1, none⟩ _ (by simp)).trans ?_
    rw [World.cell?_drew]
    exact g1
  rintro e u' w'' ⟨rfl, rfl, rfl⟩
  simp [Leaves, settle, results, Tryd.results26]
  exact ⟨_, HQ.out, rfl⟩
set_option maxHeartbeats 4000000 in
set_option maxRecDepth 100000 in
/-- '(*sync.Once).Do', not yet done and the lock free. -/
theorem impl_TurnPond.once (B : Nat) (Q : World → Prop) (W : World) (h0 : W.cell? ⟨B, 0, none⟩ = some (.int .u32 0)) (h1 : W.cell? ⟨B, 0 + 1, none⟩ = some (.int .i32 0)) (f1 : W.frozen? ⟨B, 0 + 1, none⟩ = false)
    (hbuild : Calls Tryd.prog 16 #[.pointer (some ⟨B, 0, none⟩)] (W.setCell ⟨B, 0 + 1, none⟩ (.int .i32 1)) fun e w' => e = .returned (.tuple #[]) ∧ w'.cell? ⟨B, 0, none⟩ = some (.int .u32 0) ∧ w'.cell? ⟨B, 0 + 1, none⟩ = some (.int .i32 1) ∧ w'.frozen? ⟨B, 0, none⟩ = false ∧ w'.frozen? ⟨B, 0 + 1, none⟩ = false ∧ Q w') :
    Calls Tryd.prog 15 #[.pointer (some ⟨B, 0, none⟩), .func (.func 16) #[.pointer (some ⟨B, 0, none⟩)] #[]] W fun e w' => e = .returned (.tuple #[]) ∧ ∃ w1, Q w1 ∧ w' = (w1.drew.setCell ⟨B, 0, none⟩ (.int .u32 1)).setCell ⟨B, 0 + 1, none⟩ (.int .i32 0) := by
  have HBU := Aside0.mk hbuild
  clear hbuild
  have hnot : ∀ (x : Bool) (w : World), (Op.unary .not (.bool x)).run Tryd.prog w = .ok (.bool (!x)) w := fun _ _ => rfl
  go_enter Tryd.func15, Tryd.ntmps15
  go_wp2_with (first | (go_at_call 25; (refine (impl_TurnPond.load0 _ _ h0).mono ?_); rintro e w3 ⟨rfl, rfl⟩) | (go_at_call 26; (refine (impl_TurnPond.slow B Q _ h0 h1 f1 HBU.out).mono ?_); rintro e w4 ⟨rfl, hq⟩; have HQ := Aside0.mk hq; clear hq))
  go_end0
  exact ⟨rfl, HQ.out⟩
/-- The four texts. -/
def impl_TurnPond.txt : List Value := [.string ⟨#[114]⟩, .string ⟨#[108]⟩, .string ⟨#[108]⟩, .string ⟨#[114]⟩]
theorem impl_TurnPond.form4 {w1 : World} {b : Nat} {v1 : Value} (h : w1.ownsRow b 9 1 v1 (0 + 4) ([] ++ impl_TurnPond.txt)) : ∃ g cap cur, v1 = .slice (some ⟨g, 0, none⟩) 4 cap ∧ b ≤ g ∧ w1.heap[g]? = some (.cells cur 9 (0, 0)) ∧ cur.toList.take 4 = impl_TurnPond.txt := by
  rcases h.2 with ⟨_, e⟩ | ⟨g, cap, cur, e, h1, h2, _, _, _, h3⟩
  · omega
  · exact ⟨g, cap, cur, e, h1, h2, h3⟩
set_option maxHeartbeats 4000000 in
set_option maxRecDepth 100000 in
/-- 'strings.NewReplacer' over the four texts: a box whose cells are those of a replacer that is not built yet. -/
theorem impl_TurnPond.new (R c : Nat) (W : World) (hR : W.heap[R]? = some (.cells impl_TurnPond.txt.toArray 9 (0, 0))) :
    Calls Tryd.prog 9 #[.slice (some ⟨R, 0, none⟩) 4 c] W fun e w' => ∃ (g cap : Nat) (cur : Array Value) (w1 : World), e = .returned (.pointer (some ⟨w1.heap.size, 0, none⟩)) ∧ w' = w1.alloc (.cells #[.int .u32 0, .int .i32 0, .int .u32 0, .nilIface, .slice (some ⟨g, 0, none⟩) 4 cap] 46) ∧ W.heap.size ≤ g ∧ w1.heap[g]? = some (.cells cur 9 (0, 0)) ∧ cur.toList.take 4 = impl_TurnPond.txt ∧ W.grownBy w1 none := by
  obtain ⟨i0, hi0, hi1⟩ := Option.map_eq_some_iff.1 (show (Tryd.prog.info? 9).map (fun i => (i.zero, i.size, i.bytes)) = some (some (.string ⟨#[]⟩), 1, 16) by kernel_rfl)
  simp only [Prod.mk.injEq] at hi1
  have hcl : ∀ j u, impl_TurnPond.txt[j]? = some u → W.cell? ((⟨R, 0, none⟩ : Addr).add j) = some u := fun j u hj => by
    rw [Addr.add_lit, World.cell?]
    simp only [hR, Nat.zero_add]
    simpa using hj
  have HR := Aside0.mk hR
  have HCL := Aside0.mk hcl
  clear hR hcl
  go_enter Tryd.func9, Tryd.ntmps9
  go_wp2_with (at_builtin; (refine wpList_append_own _ rfl (.const (.slice none 0 0)) (.tmp 8) 30 rfl W.heap.size 9 i0 (.string ⟨#[]⟩) 1 16 Tryd.underlying30 hi0 hi1.1 hi1.2.1 hi1.2.2 rfl (by decide) (.slice none 0 0) 0 [] rfl (World.ownsRow_nil _ _ _ _) ⟨R, 0, none⟩ 4 c impl_TurnPond.txt rfl rfl HCL.out (by decide) (by decide) (by decide) (Nat.le_refl _) ?_); intro v1 w1 hown hg1 _; have HG1 := Aside0.mk hg1; obtain ⟨g, cap, cur, e1, k1, k2, k3⟩ := impl_TurnPond.form4 hown; subst e1; clear hown hg1)
  go_ret
  exact ⟨g, cap, cur, w1, rfl, rfl, k1, k2, k3, HG1.out⟩
/-- Block T is a table of 256 bytes: entry j holds f j. -/
def impl_TurnPond.Tab (T : Nat) (f : Nat → Nat) (w : World) : Prop := ∃ cs : Array Value, w.heap[T]? = some (.cells cs 73 (0, 0)) ∧ cs.size = 256 ∧ ∀ j, j < 256 → cs[j]? = some (.int .u8 (f j : Int))
theorem impl_TurnPond.Tab.cell {T : Nat} {f : Nat → Nat} {w : World} (h : impl_TurnPond.Tab T f w) {j : Nat} (hj : j < 256) : w.cell? ⟨T, j, none⟩ = some (.int .u8 (f j : Int)) := by
  obtain ⟨cs, h1, _, h3⟩ := h
  rw [blk_cell h1]; exact h3 j hj
theorem impl_TurnPond.Tab.free {T : Nat} {f : Nat → Nat} {w : World} (h : impl_TurnPond.Tab T f w) (j : Nat) : w.frozen? ⟨T, j, none⟩ = false := by
  obtain ⟨cs, h1, _, _⟩ := h
  exact frozen_of_row w T j cs _ h1
theorem impl_TurnPond.Tab.lt {T : Nat} {f : Nat → Nat} {w : World} (h : impl_TurnPond.Tab T f w) : T < w.heap.size := by
  obtain ⟨cs, h1, _, _⟩ := h
  exact (Array.getElem?_eq_some_iff.1 h1).1
theorem impl_TurnPond.Tab.store {T : Nat} {f : Nat → Nat} {w : World} (h : impl_TurnPond.Tab T f w) (k v : Nat) (hk : k < 256) : impl_TurnPond.Tab T (fun j => if j = k then v else f j) (w.setCell ⟨T, k, none⟩ (.int .u8 (v : Int))) := by
  obtain ⟨cs, h1, h2, h3⟩ := h
  refine ⟨_, heap_setCell_same w T k cs _ _ h1, by simpa using h2, fun j hj => ?_⟩
  rw [Array.getElem?_setIfInBounds]
  by_cases e : k = j
  · subst e; simp [h2, hk]
  · rw [if_neg e]
    show cs[j]? = some (.int .u8 ((if j = k then v else f j : Nat) : Int))
    rw [if_neg (fun e' : j = k => e e'.symm)]; exact h3 j hj
theorem impl_TurnPond.Tab.same {T : Nat} {f g : Nat → Nat} {w : World} (h : impl_TurnPond.Tab T f w) (e : ∀ j, j < 256 → f j = g j) : impl_TurnPond.Tab T g w := by
  obtain ⟨cs, h1, h2, h3⟩ := h
  exact ⟨cs, h1, h2, fun j hj => by rw [← e j hj]; exact h3 j hj⟩
theorem impl_TurnPond.Tab.below {T B : Nat} {f : Nat → Nat} {w w' : World} (h : impl_TurnPond.Tab T f w) (hb : Below B w w') (hT : T < B) : impl_TurnPond.Tab T f w' := by
  obtain ⟨cs, h1, h2, h3⟩ := h
  exact ⟨cs, (hb.block T hT).trans h1, h2, h3⟩
theorem impl_TurnPond.setCells_new (w : World) (c : Array Value) (t : TypeId) : ∀ (vs : List Value) (o : Nat), (∀ j v, vs[j]? = some v → c[o + j]? = some v) → (w.alloc (.cells c t)).setCells w.heap.size o vs = w.alloc (.cells c t)
  | [], _, _ => rfl
  | v :: r, o, h => by
    have e : c.setIfInBounds o v = c := by
      have h0 := h 0 v rfl
      apply Array.ext_getElem?
      intro i
      rw [Array.getElem?_setIfInBounds]
      by_cases q : o = i
      · subst q
        rw [if_pos rfl]
        rw [Nat.add_zero] at h0
        rw [if_pos (Array.getElem?_eq_some_iff.1 h0).1]; exact h0.symm
      · rw [if_neg q]
    rw [World.setCells, World.setCell_alloc_new, e]
    exact impl_TurnPond.setCells_new w c t r (o + 1) fun j u hj => by rw [show o + 1 + j = o + (j + 1) by omega]; exact h (j + 1) u hj
theorem impl_TurnPond.zeros : Tryd.zeroCells73 = Array.replicate 256 (.int .u8 0) := by kernel_rfl
theorem impl_TurnPond.store_zeros (W : World) : (storeCells ⟨W.heap.size, 0, none⟩ Tryd.zeroCells73.toList).run Tryd.prog (W.alloc (.cells Tryd.zeroCells73 73)) = .ok () (W.alloc (.cells Tryd.zeroCells73 73)) := by
  rw [impl_TurnPond.zeros]
  refine (run_storeCells_cells (P := Tryd.prog) W.heap.size 0 _ 0 _ ?_ ?_ ?_).trans ?_
  · intro j hj
    rw [cell_of_row _ _ _ _ _ _ (heap_alloc_new W _), Array.getElem?_replicate, if_pos (by simp only [Array.toList_replicate, List.length_replicate] at hj; omega)]
    rfl
  · intro j hj
    exact frozen_of_row _ _ _ _ _ (heap_alloc_new W _)
  · intro v hv
    simp only [Array.toList_replicate, List.mem_replicate] at hv
    rw [hv.2]; rfl
  · rw [impl_TurnPond.setCells_new]
    intro j v hj
    rw [← Array.getElem?_toList, Nat.add_zero, Nat.zero_add]; exact hj
theorem impl_TurnPond.tab0 (W : World) : impl_TurnPond.Tab W.heap.size (fun _ => 0) (W.alloc (.cells Tryd.zeroCells73 73)) := by
  refine ⟨_, heap_alloc_new _ _, ?_, fun j hj => ?_⟩
  · rw [impl_TurnPond.zeros]; simp
  · rw [impl_TurnPond.zeros, Array.getElem?_replicate, if_pos hj]; rfl
/-- The table that turns: r and l change places. -/
def impl_TurnPond.swap (j : Nat) : Nat := if j = 114 then 108 else if j = 108 then 114 else j
/-- The table while the third loop runs: so many rounds are to come. -/
def impl_TurnPond.tabAt : Nat → Nat → Nat
  | 0 => impl_TurnPond.swap
  | 1 => fun j => if j = 108 then 114 else j
  | _ => fun j => j
set_option maxHeartbeats 4000000 in
set_option maxRecDepth 100000 in
theorem impl_TurnPond.build (B g cap : Nat) (cur : Array Value) (W : World) (h4 : W.cell? ⟨B, 4, none⟩ = some (.slice (some ⟨g, 0, none⟩) 4 cap)) (hg : W.heap[g]? = some (.cells cur 9 (0, 0))) (ht : cur.toList.take 4 = impl_TurnPond.txt) :
    Calls Tryd.prog 27 #[.pointer (some ⟨B, 0, none⟩)] W fun e w' => e = .returned (.iface 74 (.pointer (some ⟨W.heap.size, 0, none⟩))) ∧ impl_TurnPond.Tab W.heap.size impl_TurnPond.swap w' ∧ Below W.heap.size W w' := by
  have hc : ∀ j, j < 4 → W.cell? ⟨g, j, none⟩ = impl_TurnPond.txt[j]? := fun j hj => by
    rw [blk_cell hg, ← Array.getElem?_toList, ← List.getElem?_take_of_lt hj, ht]
  have c0 : W.cell? ⟨g, 0, none⟩ = some (.string ⟨#[114]⟩) := hc 0 (by decide)
  have c1 : W.cell? ⟨g, 1, none⟩ = some (.string ⟨#[108]⟩) := hc 1 (by decide)
  have c2 : W.cell? ⟨g, 2, none⟩ = some (.string ⟨#[108]⟩) := hc 2 (by decide)
  have c3 : W.cell? ⟨g, 3, none⟩ = some (.string ⟨#[114]⟩) := hc 3 (by decide)
  have HG := Aside0.mk hg
  have HT := Aside0.mk ht
  have hsz := impl_TurnPond.store_zeros W
  clear hc hg ht
  go_enter Tryd.func27, Tryd.ntmps27
  go_wp2
  go_loopg [4, 5] 2 (fun kq v4 v5 w' => v4 = .bool true ∧ v5 = .int .i64 (4 - 2 * (kq : Int)) ∧ Aside0 (kq ≤ 2) ∧ W = w')
  case atStart => exact ⟨rfl, rfl, ⟨Nat.le_refl _⟩, rfl⟩
  case round =>
    obtain ⟨rfl, rfl, HK, rfl⟩ := hrel
    cases gk with
    | zero =>
      rw [show (4 : Int) - 2 * ((0 : Nat) : Int) = 4 from rfl]
      go_wp2
      have hT0 := Aside0.mk (impl_TurnPond.tab0 W)
      clear hsz
      go_loopg [61] 256 (fun kq v61 w' => ∃ i : Nat, Aside0 (i + kq = 256) ∧ v61 = .int .i64 (i : Int) ∧ Aside0 (impl_TurnPond.Tab W.heap.size (fun j => if j < i then j else 0) w' ∧ Below W.heap.size W w'))
      case atStart => exact ⟨0, ⟨by omega⟩, rfl, ⟨hT0.out.same (fun j _ => by rw [if_neg (Nat.not_lt_zero j)]), (Below.refl _ _).alloc (Nat.le_refl _) _⟩⟩
      case round =>
        obtain ⟨i, HI, rfl, HTB⟩ := hrel
        cases gk with
        | zero =>
          obtain rfl : i = 256 := by have := HI.out; omega
          rw [show (((256 : Nat) : Int)) = 256 from rfl]
          go_wp2
          have hT2 : Aside0 (impl_TurnPond.Tab W.heap.size (impl_TurnPond.tabAt 2) wr ∧ Below W.heap.size W wr) := ⟨HTB.out.1.same (fun j hj => by show (if j < 256 then j else 0) = j; rw [if_pos hj]), HTB.out.2⟩
          clear HTB hT0 HI
          obtain ⟨wo, rfl⟩ : ∃ wo : World, wo = wr := ⟨_, rfl⟩
          go_loopg [8] 2 (fun kq v8 w' => v8 = .int .i64 (2 * (kq : Int) - 2) ∧ Aside0 (kq ≤ 2) ∧ Aside0 (impl_TurnPond.Tab W.heap.size (impl_TurnPond.tabAt kq) w' ∧ Below W.heap.size W w'))
          case atStart => exact ⟨rfl, ⟨Nat.le_refl _⟩, hT2⟩
          case round =>
            obtain ⟨rfl, HK3, HTB⟩ := hrel
            have d0 := (HTB.out.2.cell (World.block_lt_of_cell? W _ c0)).trans c0
            have d1 := (HTB.out.2.cell (World.block_lt_of_cell? W _ c1)).trans c1
            have d2 := (HTB.out.2.cell (World.block_lt_of_cell? W _ c2)).trans c2
            have d3 := (HTB.out.2.cell (World.block_lt_of_cell? W _ c3)).trans c3
            have e114 := HTB.out.1.cell (j := 114) (by decide)
            have e108 := HTB.out.1.cell (j := 108) (by decide)
            have f114 := HTB.out.1.free 114
            have f108 := HTB.out.1.free 108
            have b114 : ((⟨#[114]⟩ : ByteArray)[0]'(by decide)).toNat = 114 := rfl
            have b108 : ((⟨#[108]⟩ : ByteArray)[0]'(by decide)).toNat = 108 := rfl
            cases gk with
            | zero =>
              rw [show (2 : Int) * ((0 : Nat) : Int) - 2 = -2 from rfl]
              go_wp2
              go_ret
              exact ⟨rfl, HTB.out⟩
            | succ k1 =>
              rcases (show k1 = 0 ∨ k1 = 1 by have := HK3.out; omega) with rfl | rfl
              · rw [show (2 : Int) * ((0 + 1 : Nat) : Int) - 2 = 0 from rfl]
                go_wp2
                go_roundg 0
                case measure => omega
                case rel => exact ⟨rfl, ⟨by omega⟩, ⟨HTB.out.1.store 114 108 (by decide), HTB.out.2.setCell (Nat.le_refl _) _⟩⟩
              · rw [show (2 : Int) * ((1 + 1 : Nat) : Int) - 2 = 2 from rfl]
                go_wp2
                go_roundg 1
                case measure => omega
                case rel => exact ⟨rfl, ⟨by omega⟩, ⟨HTB.out.1.store 108 114 (by decide), HTB.out.2.setCell (Nat.le_refl _) _⟩⟩
        | succ k1 =>
          have hi : i < 256 := by have := HI.out; omega
          have hi0 : (0 : Int) ≤ (i : Int) := by omega
          have hi1 : (i : Int) < 256 := by omega
          have hcell := HTB.out.1.cell hi
          have hfr := HTB.out.1.free i
          go_wp2
          go_roundg k1
          case measure => omega
          case rel => exact ⟨i + 1, ⟨by have := HI.out; omega⟩, rfl, ⟨(HTB.out.1.store i i hi).same (fun j _ => by
            show (if j = i then i else if j < i then j else 0) = if j < i + 1 then j else 0
            by_cases e : j = i
            · rw [if_pos e, if_pos (by omega)]; exact e.symm
            · rw [if_neg e]
              by_cases e2 : j < i
              · rw [if_pos e2, if_pos (by omega)]
              · rw [if_neg e2, if_neg (by omega)]), HTB.out.2.setCell (Nat.le_refl _) _⟩⟩
    | succ k1 =>
      rcases (show k1 = 0 ∨ k1 = 1 by have := HK.out; omega) with rfl | rfl
      · rw [show (4 : Int) - 2 * ((0 + 1 : Nat) : Int) = 2 from rfl]
        go_wp2
        go_roundg 0
        case measure => omega
        case rel => exact ⟨rfl, rfl, ⟨by omega⟩, rfl⟩
      · rw [show (4 : Int) - 2 * ((1 + 1 : Nat) : Int) = 0 from rfl]
        go_wp2
        go_roundg 1
        case measure => omega
        case rel => exact ⟨rfl, rfl, ⟨by omega⟩, rfl⟩
set_option maxHeartbeats 4000000 in
set_option maxRecDepth 100000 in
/-- '(*strings.Replacer).buildOnce' over the four texts: the box's cells hold the table's address and nil. -/
theorem impl_TurnPond.buildOnce (B g cap : Nat) (cur : Array Value) (v0 v1 v3 : Value) (W : World) (hB : W.heap[B]? = some (.cells #[v0, v1, .int .u32 0, v3, .slice (some ⟨g, 0, none⟩) 4 cap] 46 (0, 0))) (hg : W.heap[g]? = some (.cells cur 9 (0, 0))) (ht : cur.toList.take 4 = impl_TurnPond.txt) :
    Calls Tryd.prog 16 #[.pointer (some ⟨B, 0, none⟩)] W fun e w' => e = .returned (.tuple #[]) ∧ ∃ w1, impl_TurnPond.Tab W.heap.size impl_TurnPond.swap w1 ∧ Below W.heap.size W w1 ∧ w' = (w1.setCell ⟨B, 3, none⟩ (.iface 74 (.pointer (some ⟨W.heap.size, 0, none⟩)))).setCell ⟨B, 4, none⟩ (.slice none 0 0) := by
  have hlt := (Array.getElem?_eq_some_iff.1 hB).1
  have h4 : W.cell? ⟨B, 4, none⟩ = some (.slice (some ⟨g, 0, none⟩) 4 cap) := (blk_cell hB 4).trans rfl
  have h3 : W.cell? ⟨B, 3, none⟩ = some v3 := (blk_cell hB 3).trans rfl
  have z4 : W.frozen? ⟨B, 4, none⟩ = false := frozen_of_row W B 4 _ _ hB
  have z3 : W.frozen? ⟨B, 3, none⟩ = false := frozen_of_row W B 3 _ _ hB
  have HG := Aside0.mk hg
  have HT := Aside0.mk ht
  have HB := Aside0.mk hB
  clear hg ht hB
  go_enter Tryd.func16, Tryd.ntmps16
  go_wp2_with (go_at_call 27; refine (impl_TurnPond.build B g cap cur _ h4 HG.out HT.out).mono ?_; rintro e w1 ⟨rfl, ht1, hb1⟩; have HT1 := Aside0.mk ht1; have HB1 := Aside0.mk hb1; have k4 := (hb1.cell (p := ⟨B, 4, none⟩) hlt).trans h4; have k3 := (hb1.cell (p := ⟨B, 3, none⟩) hlt).trans h3; have y4 := (hb1.frozen (p := ⟨B, 4, none⟩) hlt).trans z4; have y3 := (hb1.frozen (p := ⟨B, 3, none⟩) hlt).trans z3; clear ht1 hb1)
  go_end0
  exact ⟨rfl, _, HT1.out, HB1.out, rfl⟩
/-- The byte's turn. -/
def impl_TurnPond.swapB (c : UInt8) : UInt8 := if c = 114 then 108 else if c = 108 then 114 else c
theorem impl_TurnPond.swapB_toNat (c : UInt8) : (impl_TurnPond.swapB c).toNat = impl_TurnPond.swap c.toNat := by
  unfold impl_TurnPond.swapB impl_TurnPond.swap
  have h1 : (c.toNat = 114) ↔ c = 114 := by rw [← UInt8.toNat_inj]; rfl
  have h2 : (c.toNat = 108) ↔ c = 108 := by rw [← UInt8.toNat_inj]; rfl
  by_cases e : c = 114
  · rw [if_pos e, if_pos (h1.2 e)]; rfl
  · rw [if_neg e, if_neg (fun q => e (h1.1 q))]
    by_cases e2 : c = 108
    · rw [if_pos e2, if_pos (h2.2 e2)]; rfl
    · rw [if_neg e2, if_neg (fun q => e2 (h2.1 q))]
/-- Block g begins with n bytes of the call's own: byte j is f j. -/
def impl_TurnPond.Buf (g n : Nat) (f : Nat → Nat) (w : World) : Prop := ∀ j, j < n → w.cell? ⟨g, j, none⟩ = some (.int .u8 (f j : Int)) ∧ w.frozen? ⟨g, j, none⟩ = false
theorem impl_TurnPond.Buf.store {g n : Nat} {f : Nat → Nat} {w : World} (h : impl_TurnPond.Buf g n f w) (k v : Nat) (hk : k < n) : impl_TurnPond.Buf g n (fun j => if j = k then v else f j) (w.setCell ⟨g, k, none⟩ (.int .u8 (v : Int))) := by
  intro j hj
  refine ⟨?_, by rw [World.frozen?_setCell]; exact (h j hj).2⟩
  show (w.setCell ⟨g, k, none⟩ (.int .u8 (v : Int))).cell? ⟨g, j, none⟩ = some (.int .u8 ((if j = k then v else f j : Nat) : Int))
  by_cases e : j = k
  · subst e; rw [if_pos rfl]; exact World.cell?_setCell_same _ _ _ (h j hj).1
  · rw [if_neg e, World.cell?_setCell_other _ _ _ _ (by simp [e])]; exact (h j hj).1
theorem impl_TurnPond.Buf.same {g n : Nat} {f f' : Nat → Nat} {w : World} (h : impl_TurnPond.Buf g n f w) (e : ∀ j, j < n → f j = f' j) : impl_TurnPond.Buf g n f' w := fun j hj => by rw [← e j hj]; exact h j hj
/-- A text's bytes by number. -/
def impl_TurnPond.sb (s : ByteArray) (j : Nat) : Nat := (s.data.toList.getD j 0).toNat
theorem impl_TurnPond.sb_get (s : ByteArray) (j : Nat) (hj : j < s.size) : impl_TurnPond.sb s j = (s[j]'hj).toNat := by
  unfold impl_TurnPond.sb
  rw [List.getD_eq_getElem?_getD, List.getElem?_eq_getElem (by simpa using hj)]
  rfl
theorem impl_TurnPond.buf_new (w : World) (s : ByteArray) : impl_TurnPond.Buf w.heap.size s.size (impl_TurnPond.sb s) (Lib.bytesWorld w 5 s) := by
  intro j hj
  refine ⟨?_, ?_⟩
  · rw [Lib.bytesWorld_cell w 5 s j hj]; rfl
  · unfold World.frozen?
    simp only [Lib.bytesWorld_at_new]
    have hsz : s.size ≤ (Lib.bytesCells w 5 s).size := by simp [Lib.bytesCells]
    simp
    omega
/-- The text turned byte by byte. -/
def impl_TurnPond.turned (s : ByteArray) : ByteArray := ⟨(s.data.toList.map impl_TurnPond.swapB).toArray⟩
/-- What the loop over the text keeps: nothing has changed so far and there is no row, or the row holds the first i bytes turned. -/
def impl_TurnPond.Mid (B0 : Nat) (s : ByteArray) (i : Nat) (v : Value) (w : World) : Prop :=
  (v = .slice none 0 0 ∧ ∀ j, j < i → impl_TurnPond.swap (impl_TurnPond.sb s j) = impl_TurnPond.sb s j) ∨ ∃ g cap, v = .slice (some ⟨g, 0, none⟩) s.size cap ∧ B0 ≤ g ∧ impl_TurnPond.Buf g s.size (fun j => if j < i then impl_TurnPond.swap (impl_TurnPond.sb s j) else impl_TurnPond.sb s j) w
theorem impl_TurnPond.turned_same (s : ByteArray) (h : ∀ j, j < s.size → impl_TurnPond.swap (impl_TurnPond.sb s j) = impl_TurnPond.sb s j) : impl_TurnPond.turned s = s := by
  unfold impl_TurnPond.turned
  have e : s.data.toList.map impl_TurnPond.swapB = s.data.toList := by
    apply List.ext_getElem (by simp)
    intro j h1 h2
    rw [List.getElem_map]
    have hj : j < s.size := by simpa using h2
    have := h j hj
    rw [impl_TurnPond.sb_get s j hj] at this
    apply UInt8.toNat_inj.1
    rw [impl_TurnPond.swapB_toNat]; exact this
  rw [e]
theorem impl_TurnPond.turned_cells {g : Nat} {s : ByteArray} {w : World} (h : impl_TurnPond.Buf g s.size (fun j => if j < s.size then impl_TurnPond.swap (impl_TurnPond.sb s j) else impl_TurnPond.sb s j) w) : ∀ j (hj : j < (s.data.toList.map impl_TurnPond.swapB).length), w.cell? ((⟨g, 0, none⟩ : Addr).add j) = some (.int .u8 (((s.data.toList.map impl_TurnPond.swapB)[j]'hj).toNat : Int)) := by
  intro j hj
  have hj' : j < s.size := by simpa using hj
  have := (h j hj').1
  have e : (fun j => if j < s.size then impl_TurnPond.swap (impl_TurnPond.sb s j) else impl_TurnPond.sb s j) j = impl_TurnPond.swap (impl_TurnPond.sb s j) := if_pos hj'
  rw [e] at this
  rw [Addr.add_lit, Nat.zero_add, this, List.getElem_map, impl_TurnPond.swapB_toNat, impl_TurnPond.sb_get s j hj']
  rfl
theorem impl_TurnPond.Mid.keep {B0 : Nat} {s : ByteArray} {i : Nat} {v : Value} {w : World} (h : impl_TurnPond.Mid B0 s i v w) (hi : i < s.size) (e : impl_TurnPond.swap (s[i]'hi).toNat = (s[i]'hi).toNat) : impl_TurnPond.Mid B0 s (i + 1) v w := by
  rw [← impl_TurnPond.sb_get s i hi] at e
  rcases h with ⟨rfl, h⟩ | ⟨g, cap, rfl, hg, hb⟩
  · refine .inl ⟨rfl, fun j hj => ?_⟩
    by_cases q : j = i
    · subst q; exact e
    · exact h j (by omega)
  · refine .inr ⟨g, cap, rfl, hg, hb.same fun j hj => ?_⟩
    show (if j < i then impl_TurnPond.swap (impl_TurnPond.sb s j) else impl_TurnPond.sb s j) = if j < i + 1 then impl_TurnPond.swap (impl_TurnPond.sb s j) else impl_TurnPond.sb s j
    by_cases q : j = i
    · subst q; rw [if_neg (Nat.lt_irrefl _), if_pos (Nat.lt_succ_self _)]; exact e.symm
    · by_cases q2 : j < i
      · rw [if_pos q2, if_pos (by omega)]
      · rw [if_neg q2, if_neg (by omega)]
theorem impl_TurnPond.Mid.put {B0 g cap : Nat} {s : ByteArray} {i : Nat} {w : World} (hg : B0 ≤ g) (hb : impl_TurnPond.Buf g s.size (fun j => if j < i then impl_TurnPond.swap (impl_TurnPond.sb s j) else impl_TurnPond.sb s j) w) (hi : i < s.size) :
    impl_TurnPond.Mid B0 s (i + 1) (.slice (some ⟨g, 0, none⟩) s.size cap) (w.setCell ⟨g, i, none⟩ (.int .u8 (impl_TurnPond.swap (s[i]'hi).toNat : Int))) := by
  rw [← impl_TurnPond.sb_get s i hi]
  refine .inr ⟨g, cap, rfl, hg, (hb.store i (impl_TurnPond.swap (impl_TurnPond.sb s i)) hi).same fun j hj => ?_⟩
  show (if j = i then impl_TurnPond.swap (impl_TurnPond.sb s i) else if j < i then impl_TurnPond.swap (impl_TurnPond.sb s j) else impl_TurnPond.sb s j) = if j < i + 1 then impl_TurnPond.swap (impl_TurnPond.sb s j) else impl_TurnPond.sb s j
  by_cases q : j = i
  · subst q; rw [if_pos rfl, if_pos (Nat.lt_succ_self _)]
  · rw [if_neg q]
    by_cases q2 : j < i
    · rw [if_pos q2, if_pos (by omega)]
    · rw [if_neg q2, if_neg (by omega)]
theorem impl_TurnPond.Mid.first {B0 cap : Nat} {s : ByteArray} {i : Nat} {w : World} (hB : B0 ≤ w.heap.size) (h : ∀ j, j < i → impl_TurnPond.swap (impl_TurnPond.sb s j) = impl_TurnPond.sb s j) (hi : i < s.size) :
    impl_TurnPond.Mid B0 s (i + 1) (.slice (some ⟨w.heap.size, 0, none⟩) s.size cap) ((Lib.bytesWorld w 5 s).setCell ⟨w.heap.size, i, none⟩ (.int .u8 (impl_TurnPond.swap (s[i]'hi).toNat : Int))) :=
  .put hB ((impl_TurnPond.buf_new w s).same fun j _ => by
    show impl_TurnPond.sb s j = if j < i then impl_TurnPond.swap (impl_TurnPond.sb s j) else impl_TurnPond.sb s j
    by_cases q2 : j < i
    · rw [if_pos q2]; exact (h j q2).symm
    · rw [if_neg q2]) hi
set_option maxHeartbeats 4000000 in
set_option maxRecDepth 100000 in
/-- '(*strings.byteReplacer).Replace' over the table that turns. -/
theorem impl_TurnPond.bytes (T : Nat) (s : ByteArray) (W : World) (hs : s.size ≤ 1000) (hT : impl_TurnPond.Tab T impl_TurnPond.swap W) :
    Calls Tryd.prog 100 #[.pointer (some ⟨T, 0, none⟩), .string s] W fun e w' => e = .returned (.string (impl_TurnPond.turned s)) ∧ Below W.heap.size W w' := by
  have HT := Aside0.mk hT
  clear hT
  have hnil := fun (w : World) (x : Option Addr) (n c n' c' : Nat) => Lib.run_eql_slice_nil (P := Tryd.prog) w 48 5 x n c n' c' Tryd.underlying48
  go_enter Tryd.func100, Tryd.ntmps100
  go_wp2
  go_loopg [5, 6] s.size (fun kq v5 v6 w' => ∃ i : Nat, Aside0 (i + kq = s.size) ∧ v6 = .int .i64 (i : Int) ∧ Aside0 (impl_TurnPond.Mid W.heap.size s i v5 w') ∧ Aside0 (Below W.heap.size W w'))
  case atStart => exact ⟨0, ⟨by omega⟩, rfl, ⟨.inl ⟨rfl, fun j hj => absurd hj (Nat.not_lt_zero j)⟩⟩, ⟨Below.refl _ _⟩⟩
  case round =>
    obtain ⟨i, HI, rfl, HM, HB⟩ := hrel
    cases gk with
    | zero =>
      obtain rfl : i = s.size := by have := HI.out; omega
      rcases HM.out with ⟨rfl, hsame⟩ | ⟨g, cap, rfl, hg, hbuf⟩
      · have e := Aside0.mk (impl_TurnPond.turned_same s hsame)
        clear hsame HM HI
        go_wp2
        go_ret
        exact ⟨by rw [e.out]; rfl, HB.out⟩
      · have hback := run_convert_bytes_back wr 48 9 5 ⟨g, 0, none⟩ cap (s.data.toList.map impl_TurnPond.swapB) Tryd.underlying48 Tryd.underlying5 Tryd.underlying9 (impl_TurnPond.turned_cells hbuf)
        rw [show (s.data.toList.map impl_TurnPond.swapB).length = s.size by simp] at hback
        clear hbuf HM HI
        go_wp2
        go_ret
        exact ⟨rfl, HB.out⟩
    | succ k1 =>
      have hi : i < s.size := by have := HI.out; omega
      have hi0 : (0 : Int) ≤ (i : Int) := by omega
      have hi1 : (i : Int) < (s.size : Int) := by omega
      have h256 : ((s[i]'hi).toNat : Int) < 256 := by have := UInt8.toNat_lt (s[i]'hi); omega
      have hcell := (HT.out.below HB.out HT.out.lt).cell (j := (s[i]'hi).toNat) (UInt8.toNat_lt _)
      have hconv := Lib.run_convert_string_bytes (P := Tryd.prog) wr 9 48 5 s Tryd.underlying9 Tryd.underlying48 Tryd.underlying5
      by_cases c : impl_TurnPond.swap (s[i]'hi).toNat = (s[i]'hi).toNat
      · have cb : (((impl_TurnPond.swap (s[i]'hi).toNat : Nat) : Int) != ((s[i]'hi).toNat : Int)) = false := by rw [c]; simp
        have HC := Aside0.mk c
        clear c
        go_wp2
        go_roundg k1
        case measure => omega
        case rel =>
          exact ⟨i + 1, ⟨by have := HI.out; omega⟩, rfl, ⟨HM.out.keep hi HC.out⟩, ⟨HB.out⟩⟩
      · have cb : (((impl_TurnPond.swap (s[i]'hi).toNat : Nat) : Int) != ((s[i]'hi).toNat : Int)) = true := by rw [bne_iff_ne]; intro q; exact c (Int.ofNat_inj.1 q)
        have HC := Aside0.mk c
        clear c
        rcases HM.out with ⟨rfl, hsame⟩ | ⟨g, cap, rfl, hg, hbuf⟩
        · have HS := Aside0.mk hsame
          clear hsame HM
          have hbb := impl_mirrored.belowBytes wr 5 s
          have hlt := HB.out.size
          have hcell2 := (hbb.cell (p := ⟨T, (s[i]'hi).toNat, none⟩) (World.block_lt_of_cell? wr _ hcell)).trans hcell
          obtain ⟨hb1, hb2⟩ := impl_TurnPond.buf_new wr s i hi
          have HBB := Aside0.mk hbb
          have HL := Aside0.mk hlt
          clear hbb hlt
          go_wp2
          go_roundg k1
          case measure => omega
          case rel => exact ⟨i + 1, ⟨by have := HI.out; omega⟩, rfl, ⟨.first HL.out HS.out hi⟩, ⟨(HB.out.trans (HBB.out.mono HL.out)).setCell HL.out _⟩⟩
        · obtain ⟨hb1, hb2⟩ := hbuf i hi
          have HBU := Aside0.mk hbuf
          have HG := Aside0.mk hg
          clear hbuf hg HM
          go_wp2
          go_roundg k1
          case measure => omega
          case rel => exact ⟨i + 1, ⟨by have := HI.out; omega⟩, rfl, ⟨.put HG.out HBU.out hi⟩, ⟨HB.out.setCell HG.out _⟩⟩
/-- The box behind '(*strings.Replacer).buildOnce', run once: the table's block, its address in the box; below N all is as it was. -/
def impl_TurnPond.Built (N T B : Nat) (W w : World) : Prop := impl_TurnPond.Tab T impl_TurnPond.swap w ∧ w.cell? ⟨B, 3, none⟩ = some (.iface 74 (.pointer (some ⟨T, 0, none⟩))) ∧ Below N W w
theorem impl_TurnPond.built_once {N T B : Nat} {W w1 : World} (h : impl_TurnPond.Built N T B W w1) (hN : N ≤ B) (hT : T ≠ B) (u v : Value) :
    impl_TurnPond.Built N T B W ((w1.drew.setCell ⟨B, 0, none⟩ u).setCell ⟨B, 0 + 1, none⟩ v) := by
  obtain ⟨⟨cs, h1, h2, h3⟩, h4, h5⟩ := h
  refine ⟨⟨cs, ?_, h2, h3⟩, ?_, (h5.drew.setCell hN _).setCell hN _⟩
  · rw [heap_setCell_other _ _ _ _ hT, heap_setCell_other _ _ _ _ hT]; exact h1
  · rw [World.cell?_setCell_other _ _ _ _ (by simp), World.cell?_setCell_other _ _ _ _ (by simp), World.cell?_drew]; exact h4
/-- buildOnce as sync.Once calls it. -/
theorem impl_TurnPond.hbuild (N B g cap : Nat) (cur : Array Value) (W : World) (hN : N ≤ B) (hgB : g ≠ B) (hB : W.heap[B]? = some (.cells #[.int .u32 0, .int .i32 0, .int .u32 0, .nilIface, .slice (some ⟨g, 0, none⟩) 4 cap] 46 (0, 0))) (hg : W.heap[g]? = some (.cells cur 9 (0, 0))) (ht : cur.toList.take 4 = impl_TurnPond.txt) :
    Calls Tryd.prog 16 #[.pointer (some ⟨B, 0, none⟩)] (W.setCell ⟨B, 0 + 1, none⟩ (.int .i32 1)) fun e w' => e = .returned (.tuple #[]) ∧ w'.cell? ⟨B, 0, none⟩ = some (.int .u32 0) ∧ w'.cell? ⟨B, 0 + 1, none⟩ = some (.int .i32 1) ∧ w'.frozen? ⟨B, 0, none⟩ = false ∧ w'.frozen? ⟨B, 0 + 1, none⟩ = false ∧ impl_TurnPond.Built N W.heap.size B W w' := by
  have hlt := (Array.getElem?_eq_some_iff.1 hB).1
  have hB' : (W.setCell ⟨B, 0 + 1, none⟩ (.int .i32 1)).heap[B]? = some (.cells #[.int .u32 0, .int .i32 1, .int .u32 0, .nilIface, .slice (some ⟨g, 0, none⟩) 4 cap] 46 (0, 0)) := heap_setCell_same W B (0 + 1) _ _ _ hB
  have hg' : (W.setCell ⟨B, 0 + 1, none⟩ (.int .i32 1)).heap[g]? = some (.cells cur 9 (0, 0)) := (heap_setCell_other W ⟨B, 0 + 1, none⟩ g (.int .i32 1) hgB).trans hg
  have hsz : (W.setCell ⟨B, 0 + 1, none⟩ (.int .i32 1)).heap.size = W.heap.size := by simp
  refine (impl_TurnPond.buildOnce B g cap cur _ _ _ _ hB' hg' ht).mono ?_
  rintro e w' ⟨rfl, w1, hT, hb, rfl⟩
  rw [hsz] at hT hb
  have h1 : w1.heap[B]? = some (.cells #[.int .u32 0, .int .i32 1, .int .u32 0, .nilIface, .slice (some ⟨g, 0, none⟩) 4 cap] 46 (0, 0)) := (hb.block B hlt).trans hB'
  have h2 := heap_setCell_same w1 B 3 _ _ (.iface 74 (.pointer (some ⟨(W.setCell ⟨B, 0 + 1, none⟩ (.int .i32 1)).heap.size, 0, none⟩))) h1
  have h3 := heap_setCell_same _ B 4 _ _ (.slice none 0 0) h2
  rw [hsz] at h3 ⊢
  refine ⟨rfl, blk_cell h3 0, blk_cell h3 1, frozen_of_row _ B 0 _ _ h3, frozen_of_row _ B 1 _ _ h3, ?_, blk_cell h3 3, ?_⟩
  · obtain ⟨cs, t1, t2, t3⟩ := hT
    refine ⟨cs, ?_, t2, t3⟩
    rw [heap_setCell_other _ _ _ _ (by simp; omega), heap_setCell_other _ _ _ _ (by simp; omega)]; exact t1
  · exact ((((Below.refl N W).setCell hN _).trans (hb.mono (by omega))).setCell hN _).setCell hN _
theorem impl_TurnPond.nil_ahead (a : Addr) (w : World) : (nilAhead 260 74 (.pointer (some a)) "Replace").run Tryd.prog w = .ok (some false) w := by kernel_rfl
theorem impl_TurnPond.method_replace (a : Addr) (w : World) : (method 260 74 (.pointer (some a)) "Replace").run Tryd.prog w = .ok (100, .pointer (some a)) w := by kernel_rfl
/-- 'once.Do(r.buildOnce)' the first time: the box is built. -/
theorem impl_TurnPond.once2 (N B g cap : Nat) (cur : Array Value) (W : World) (hN : N ≤ B) (hgB : g ≠ B) (hB : W.heap[B]? = some (.cells #[.int .u32 0, .int .i32 0, .int .u32 0, .nilIface, .slice (some ⟨g, 0, none⟩) 4 cap] 46 (0, 0))) (hg : W.heap[g]? = some (.cells cur 9 (0, 0))) (ht : cur.toList.take 4 = impl_TurnPond.txt) :
    Calls Tryd.prog 15 #[.pointer (some ⟨B, 0, none⟩), .func (.func 16) #[.pointer (some ⟨B, 0, none⟩)] #[]] W fun e w' => e = .returned (.tuple #[]) ∧ impl_TurnPond.Built N W.heap.size B W w' := by
  have hlt := (Array.getElem?_eq_some_iff.1 hB).1
  refine (impl_TurnPond.once B (impl_TurnPond.Built N W.heap.size B W) W ((blk_cell hB 0).trans rfl) ((blk_cell hB 1).trans rfl) (frozen_of_row W B (0 + 1) _ _ hB) (impl_TurnPond.hbuild N B g cap cur W hN hgB hB hg ht)).mono ?_
  rintro e w' ⟨rfl, w1, hq, rfl⟩
  exact ⟨rfl, impl_TurnPond.built_once hq hN (by omega) _ _⟩
set_option maxHeartbeats 4000000 in
set_option maxRecDepth 100000 in
/-- '(*strings.Replacer).Replace' over a replacer of the four texts that is not built yet. -/
theorem impl_TurnPond.replace (N B g cap : Nat) (cur : Array Value) (s : ByteArray) (W : World) (hs : s.size ≤ 1000) (hN : N ≤ B) (hgB : g ≠ B) (hB : W.heap[B]? = some (.cells #[.int .u32 0, .int .i32 0, .int .u32 0, .nilIface, .slice (some ⟨g, 0, none⟩) 4 cap] 46 (0, 0))) (hg : W.heap[g]? = some (.cells cur 9 (0, 0))) (ht : cur.toList.take 4 = impl_TurnPond.txt) :
    Calls Tryd.prog 10 #[.pointer (some ⟨B, 0, none⟩), .string s] W fun e w' => e = .returned (.string (impl_TurnPond.turned s)) ∧ Below N W w' := by
  have hlt := (Array.getElem?_eq_some_iff.1 hB).1
  have hb := Aside0.mk (impl_TurnPond.once2 N B g cap cur W hN hgB hB hg ht)
  have hmf : ∀ (fn : Fn) (first cap : Array Value) (w : World), (Instr.makeFunc fn first cap).run Tryd.prog w = .ok (.func fn first cap) w := fun _ _ _ _ => rfl
  have hna := impl_TurnPond.nil_ahead
  have hme := impl_TurnPond.method_replace
  have HL : Aside0 (N ≤ W.heap.size) := ⟨by omega⟩
  clear hB hg ht hgB hlt
  go_enter Tryd.func10, Tryd.ntmps10
  go_wp2_with (first | (go_at_call 15; (refine hb.out.mono ?_); rintro e w1 ⟨rfl, hq⟩; have k3 := hq.2.1; have HQ := Aside0.mk hq; clear hq) | (go_at_call 100; (refine (impl_TurnPond.bytes _ s _ hs HQ.out.1).mono ?_); rintro e w2 ⟨rfl, hq2⟩; have HQ2 := Aside0.mk hq2; clear hq2))
  go_ret
  exact ⟨rfl, HQ.out.2.2.trans (HQ2.out.mono (Nat.le_trans HL.out HQ.out.2.2.size))⟩
/-- The program's answer. -/
def impl_TurnPond.f (a0 : ByteArray) : Option (ByteArray × Bool) := (impl_IsPond.f a0).bind fun b => if b = true then ((impl_mirrored.f a0).bind fun m => if m.size ≤ 1000 then some (impl_TurnPond.turned m, true) else none) else some ((⟨#[]⟩ : ByteArray), false)
/-- What lies in memory when Replace is called. -/
structure impl_TurnPond.Ready (N B g cap : Nat) (cur : Array Value) (w w' : World) : Prop where
  below : Below N w w'
  hN : N ≤ B
  hgB : g ≠ B
  hB : w'.heap[B]? = some (.cells #[.int .u32 0, .int .i32 0, .int .u32 0, .nilIface, .slice (some ⟨g, 0, none⟩) 4 cap] 46 (0, 0))
  hg : w'.heap[g]? = some (.cells cur 9 (0, 0))
  ht : cur.toList.take 4 = impl_TurnPond.txt
theorem impl_TurnPond.Ready.mk' {N g cap : Nat} {cur : Array Value} {w W wn : World} (hb : Below N w W) (hN : N ≤ W.heap.size) (h1 : W.heap.size ≤ g) (h2 : wn.heap[g]? = some (.cells cur 9 (0, 0))) (h3 : cur.toList.take 4 = impl_TurnPond.txt) (h4 : W.grownBy wn none) :
    impl_TurnPond.Ready N wn.heap.size g cap cur w (wn.alloc (.cells #[.int .u32 0, .int .i32 0, .int .u32 0, .nilIface, .slice (some ⟨g, 0, none⟩) 4 cap] 46)) := by
  have hgl := (Array.getElem?_eq_some_iff.1 h2).1
  have hb2 : Below N w wn := hb.grown h4 hN (fun k hk => by cases hk)
  exact ⟨hb2.alloc (by omega) _, by omega, by omega, heap_alloc_new _ _, (heap_alloc_old _ _ hgl).trans h2, h3⟩
theorem impl_TurnPond.Ready.later {N B g cap : Nat} {cur : Array Value} {w w2 w3 : World} (h : impl_TurnPond.Ready N B g cap cur w w2) (hb : Below w2.heap.size w2 w3) : impl_TurnPond.Ready N B g cap cur w w3 := by
  have h1 := (Array.getElem?_eq_some_iff.1 h.hB).1
  have h2 := (Array.getElem?_eq_some_iff.1 h.hg).1
  exact ⟨h.below.trans (hb.mono (by have := h.hN; omega)), h.hN, h.hgB, (hb.block _ h1).trans h.hB, (hb.block _ h2).trans h.hg, h.ht⟩
set_option maxHeartbeats 4000000 in
set_option maxRecDepth 100000 in
/-- 'TurnPond' at a pond. -/
theorem impl_TurnPond.calls_yes (a0 m : ByteArray) (w : World) (hp : impl_IsPond.f a0 = some true) (hm : impl_mirrored.f a0 = some m) (hs : m.size ≤ 1000) :
    Calls Tryd.prog 5 #[.string a0] w fun e w' => e = .returned (.tuple #[.string (impl_TurnPond.turned m), .bool true]) ∧ Below w.heap.size w w' := by
  have HP := Aside0.mk hp
  have HM := Aside0.mk hm
  have HS := Aside0.mk hs
  clear hp hm hs
  go_enter Tryd.func5, Tryd.ntmps5
  go_wp2_with (first
    | (go_at_call 8; (refine (impl_IsPond.calls a0 true _ HP.out).mono ?_); rintro e w1 ⟨rfl, hb⟩; have HB1 := Aside0.mk hb; clear hb)
    | (go_at_call 9; (refine (impl_TurnPond.new w1.heap.size 4 _ (heap_alloc_new w1 _)).mono ?_); rintro e w2 ⟨g, cap, cur, wn, rfl, rfl, k1, k2, k3, k4⟩; have HR := Aside0.mk (impl_TurnPond.Ready.mk' (N := w.heap.size) (w := w) (cap := cap) (HB1.out.alloc HB1.out.size _) (by have := HB1.out.size; simp; omega) k1 k2 k3 k4); clear k1 k2 k3 k4)
    | (go_at_call 11; (refine (impl_mirrored.calls a0 m _ HM.out).mono ?_); rintro e w3 ⟨rfl, hb3⟩; have HR3 := Aside0.mk (HR.out.later hb3); clear hb3)
    | (go_at_call 10; (refine (impl_TurnPond.replace w.heap.size _ _ _ _ m _ HS.out HR3.out.hN HR3.out.hgB HR3.out.hB HR3.out.hg HR3.out.ht).mono ?_); rintro e w4 ⟨rfl, hb4⟩; have HR4 := Aside0.mk (HR3.out.below.trans hb4); clear hb4))
  go_ret2
  exact ⟨rfl, HR4.out⟩
set_option maxHeartbeats 4000000 in
set_option maxRecDepth 100000 in
/-- 'TurnPond' at a text that is no pond. -/
theorem impl_TurnPond.calls_no (a0 : ByteArray) (w : World) (hp : impl_IsPond.f a0 = some false) :
    Calls Tryd.prog 5 #[.string a0] w fun e w' => e = .returned (.tuple #[.string (⟨#[]⟩ : ByteArray), .bool false]) ∧ Below w.heap.size w w' := by
  have HP := Aside0.mk hp
  clear hp
  go_enter Tryd.func5, Tryd.ntmps5
  go_wp2_with (go_at_call 8; (refine (impl_IsPond.calls a0 false _ HP.out).mono ?_); rintro e w1 ⟨rfl, hb⟩; have HB1 := Aside0.mk hb; clear hb)
  go_ret2
  exact ⟨rfl, HB1.out⟩
theorem impl_TurnPond.calls (a0 : ByteArray) (r1 : ByteArray) (r2 : Bool) (w : World) (h : impl_TurnPond.f a0 = some (r1, r2)) :
    Calls Tryd.prog 5 #[.string a0] w fun e w' => e = .returned (.tuple #[.string r1, .bool r2]) ∧ Below w.heap.size w w' := by
  unfold impl_TurnPond.f at h
  obtain ⟨b, hb, h⟩ := Option.bind_eq_some_iff.1 h
  cases b with
  | false =>
    have h' : some ((⟨#[]⟩ : ByteArray), false) = some (r1, r2) := h
    cases h'
    exact impl_TurnPond.calls_no a0 w hb
  | true =>
    rw [if_pos rfl] at h
    obtain ⟨m, hm, h⟩ := Option.bind_eq_some_iff.1 h
    by_cases c : m.size ≤ 1000
    · rw [if_pos c] at h
      cases h
      exact impl_TurnPond.calls_yes a0 m w hb hm c
    · rw [if_neg c] at h; cases h

/-! ### laws_FnExactTurnPond: function 3 -/
def laws_FnExactTurnPond.f (k : Nat) (a0 : ByteArray) : Option (Bool) := if (a0.size : Int) > 1048576 then (some true) else ((spec_TurnPond.f k a0).bind fun bt106 => ((impl_TurnPond.f a0).bind fun bt108 => (if bt108.1.toList = bt106.1.toList then (if (bt108.2 != bt106.2) = true then (some false) else (some true)) else (some false))))
theorem laws_FnExactTurnPond.mono : ∀ a0 k, LeO (laws_FnExactTurnPond.f k a0) (laws_FnExactTurnPond.f (k + 1) a0) := by
  intro a0 k
  unfold laws_FnExactTurnPond.f
  repeat' first
      | (with_reducible exact spec_TurnPond.mono _ _)
      | (with_reducible exact LeO.refl _)
      | (with_reducible exact LeO.none _)
      | (with_reducible refine LeO.ite ?_ ?_)
      | (with_reducible refine LeO.bind ?_ (fun _ => ?_))
      | exact spec_TurnPond.mono _ _
      | exact LeO.none _
      | refine LeO.ite ?_ ?_
      | refine LeO.bind ?_ (fun _ => ?_)
set_option maxHeartbeats 8000000 in
set_option maxRecDepth 100000 in
theorem laws_FnExactTurnPond.calls (k : Nat) (a0 : ByteArray) (r : Bool) (w : World) (h : laws_FnExactTurnPond.f k a0 = some r) :
    Calls Tryd.prog 3 #[.string a0] w fun e w' => e = .returned (.bool r) ∧ Below w.heap.size w w' := by
  have HB := Aside0.mk (Below.refl w.heap.size w)
  have H : (if (a0.size : Int) > 1048576 then (some true) else ((spec_TurnPond.f k a0).bind fun bt106 => ((impl_TurnPond.f a0).bind fun bt108 => (if bt108.1.toList = bt106.1.toList then (if (bt108.2 != bt106.2) = true then (some false) else (some true)) else (some false))))) = some r := h
  clear h
  by_cases c2 : (a0.size : Int) > 1048576
  · rw [if_pos c2] at H
    have c2b0 : decide (1048576 < (a0.size : Int)) = true := decide_eq_true c2
    have c2b1 : decide (1048576 < a0.size) = true := decide_eq_true (by omega)
    clear c2
    obtain rfl := Option.some.inj H
    go_enter Tryd.func3, Tryd.ntmps3
    go_wp2
    go_ret
    exact ⟨by first | rfl | (simp [errW_none, errW_some] <;> rfl) | (simp [*, errW_none, errW_some] <;> rfl), by repeat (first | (with_reducible first | exact HB.out | apply below_alloc | apply pw_below_drewN | apply below_drew1) | exact HB.out)⟩
  · rw [if_neg c2] at H
    have c2b0 : decide (1048576 < (a0.size : Int)) = false := decide_eq_false c2
    have c2b1 : decide (1048576 < a0.size) = false := decide_eq_false (by omega)
    clear c2
    replace H := Option.bind_eq_some_iff.mp H
    obtain ⟨⟨t106, t107⟩, A30, H⟩ := H
    replace H : ((impl_TurnPond.f a0).bind fun bt108 => (if bt108.1.toList = t106.toList then (if (bt108.2 != t107) = true then (some false) else (some true)) else (some false))) = some r := H
    have A3 := Aside0.mk A30
    clear A30
    replace H := Option.bind_eq_some_iff.mp H
    obtain ⟨⟨t108, t109⟩, A40, H⟩ := H
    replace H : (if t108.toList = t106.toList then (if (t109 != t107) = true then (some false) else (some true)) else (some false)) = some r := H
    have A4 := Aside0.mk A40
    clear A40
    by_cases c5 : t108.toList = t106.toList
    · rw [if_pos c5] at H
      have c5b0 : (t108.toList == t106.toList) = true := beq_iff_eq.mpr c5
      have c5b1 : (t108.toList != t106.toList) = false := bne_eq_false_iff_eq.mpr c5
      clear c5
      by_cases c6 : (t109 != t107) = true
      · rw [if_pos c6] at H
        have c6b0 : (t109 != t107) = true := c6
        (try (have c6b1 : decide (t109 = t107) = false := by simpa using c6))
        (try (have c6b2 : (t109 == t107) = false := by simpa using c6))
        (try (have c6b3 : ¬ (t109 = t107) := by simpa using c6))
        clear c6
        obtain rfl := Option.some.inj H
        go_enter Tryd.func3, Tryd.ntmps3
        go_wp2_with (first | ((with_reducible refine gate_callee (f := 4) rfl ?_); refine goesL_ (some 12) rfl rfl Tryd.func4 (by kernel_rfl) rfl #[.string a0] rfl (by (try simp only [List.map_toArray, List.map_cons, List.map_nil]); first | done | rfl | (simp only [List.length_drop, List.length_take]; rfl)) ?_; (with_reducible refine (spec_TurnPond.calls k a0 t106 t107 _ A3.out).mono ?_); rintro e w' ⟨rfl, ⟨nd, rfl⟩⟩; refine ⟨_, rfl, ?_⟩) | ((with_reducible refine gate_callee (f := 5) rfl ?_); refine goesL_ (some 17) rfl rfl Tryd.func5 (by kernel_rfl) rfl #[.string a0] rfl (by (try simp only [List.map_toArray, List.map_cons, List.map_nil]); first | done | rfl | (simp only [List.length_drop, List.length_take]; rfl)) ?_; (with_reducible refine (impl_TurnPond.calls a0 t108 t109 _ A4.out).mono ?_); rintro e w7 ⟨rfl, hb⟩; refine ⟨_, rfl, ?_⟩; have n0_ := Aside0.mk (below_step (by repeat (first | (with_reducible first | exact HB.out | apply below_alloc | apply pw_below_drewN | apply below_drew1) | exact HB.out)) hb); clear HB; have HB := n0_; clear n0_; (try clear hb); (try clear hb2); (try clear hk); (try clear hi)))
        go_ret
        exact ⟨by first | rfl | (simp [errW_none, errW_some] <;> rfl) | (simp [*, errW_none, errW_some] <;> rfl), by repeat (first | (with_reducible first | exact HB.out | apply below_alloc | apply pw_below_drewN | apply below_drew1) | exact HB.out)⟩
      · rw [if_neg c6] at H
        have c6b0 : (t109 != t107) = false := by simpa using c6
        (try (have c6b1 : decide (t109 = t107) = true := by simpa using c6))
        (try (have c6b2 : (t109 == t107) = true := by simpa using c6))
        clear c6
        obtain rfl := Option.some.inj H
        go_enter Tryd.func3, Tryd.ntmps3
        go_wp2_with (first | ((with_reducible refine gate_callee (f := 4) rfl ?_); refine goesL_ (some 12) rfl rfl Tryd.func4 (by kernel_rfl) rfl #[.string a0] rfl (by (try simp only [List.map_toArray, List.map_cons, List.map_nil]); first | done | rfl | (simp only [List.length_drop, List.length_take]; rfl)) ?_; (with_reducible refine (spec_TurnPond.calls k a0 t106 t107 _ A3.out).mono ?_); rintro e w' ⟨rfl, ⟨nd, rfl⟩⟩; refine ⟨_, rfl, ?_⟩) | ((with_reducible refine gate_callee (f := 5) rfl ?_); refine goesL_ (some 17) rfl rfl Tryd.func5 (by kernel_rfl) rfl #[.string a0] rfl (by (try simp only [List.map_toArray, List.map_cons, List.map_nil]); first | done | rfl | (simp only [List.length_drop, List.length_take]; rfl)) ?_; (with_reducible refine (impl_TurnPond.calls a0 t108 t109 _ A4.out).mono ?_); rintro e w8 ⟨rfl, hb⟩; refine ⟨_, rfl, ?_⟩; have n0_ := Aside0.mk (below_step (by repeat (first | (with_reducible first | exact HB.out | apply below_alloc | apply pw_below_drewN | apply below_drew1) | exact HB.out)) hb); clear HB; have HB := n0_; clear n0_; (try clear hb); (try clear hb2); (try clear hk); (try clear hi)))
        go_ret
        exact ⟨by first | rfl | (simp [errW_none, errW_some] <;> rfl) | (simp [*, errW_none, errW_some] <;> rfl), by repeat (first | (with_reducible first | exact HB.out | apply below_alloc | apply pw_below_drewN | apply below_drew1) | exact HB.out)⟩
    · rw [if_neg c5] at H
      have c5b0 : (t108.toList == t106.toList) = false := beq_eq_false_iff_ne.mpr c5
      have c5b1 : (t108.toList != t106.toList) = true := bne_iff_ne.mpr c5
      obtain rfl := Option.some.inj H
      go_enter Tryd.func3, Tryd.ntmps3
      go_wp2_with (first | ((with_reducible refine gate_callee (f := 4) rfl ?_); refine goesL_ (some 12) rfl rfl Tryd.func4 (by kernel_rfl) rfl #[.string a0] rfl (by (try simp only [List.map_toArray, List.map_cons, List.map_nil]); first | done | rfl | (simp only [List.length_drop, List.length_take]; rfl)) ?_; (with_reducible refine (spec_TurnPond.calls k a0 t106 t107 _ A3.out).mono ?_); rintro e w' ⟨rfl, ⟨nd, rfl⟩⟩; refine ⟨_, rfl, ?_⟩) | ((with_reducible refine gate_callee (f := 5) rfl ?_); refine goesL_ (some 17) rfl rfl Tryd.func5 (by kernel_rfl) rfl #[.string a0] rfl (by (try simp only [List.map_toArray, List.map_cons, List.map_nil]); first | done | rfl | (simp only [List.length_drop, List.length_take]; rfl)) ?_; (with_reducible refine (impl_TurnPond.calls a0 t108 t109 _ A4.out).mono ?_); rintro e w9 ⟨rfl, hb⟩; refine ⟨_, rfl, ?_⟩; have n0_ := Aside0.mk (below_step (by repeat (first | (with_reducible first | exact HB.out | apply below_alloc | apply pw_below_drewN | apply below_drew1) | exact HB.out)) hb); clear HB; have HB := n0_; clear n0_; (try clear hb); (try clear hb2); (try clear hk); (try clear hi)))
      go_ret
      exact ⟨by first | rfl | (simp [errW_none, errW_some] <;> rfl) | (simp [*, errW_none, errW_some] <;> rfl), by repeat (first | (with_reducible first | exact HB.out | apply below_alloc | apply pw_below_drewN | apply below_drew1) | exact HB.out)⟩

/-- THE ONE PURE STATEMENT of laws_FnExactTurnPond: yours. -/
def laws_FnExactTurnPond.Pure : Prop := ∀ (a0 : ByteArray), a0.size ≤ 140737488351232 → ∃ k, laws_FnExactTurnPond.f k a0 = some true
theorem laws_FnExactTurnPond.walk (P : laws_FnExactTurnPond.Pure) (a0 : ByteArray) (w : World) (w0 : a0.size ≤ 140737488351232) :
    Calls Tryd.prog 3 #[.string a0] w fun e w' => e = .returned (.bool true) ∧ Below w.heap.size w w' := by
  obtain ⟨k, h⟩ := P a0 w0
  refine (laws_FnExactTurnPond.calls k a0 true w h).mono ?_
  rintro e w' ⟨rfl, hd⟩
  exact ⟨rfl, hd⟩

end Go.Proofs.YtlfhagdhpgmlpaaDoor.PFnExactTurnPond
