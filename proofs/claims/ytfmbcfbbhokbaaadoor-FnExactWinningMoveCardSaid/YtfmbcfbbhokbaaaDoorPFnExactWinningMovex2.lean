-- Printed by this session's eprint.py over the kit's print (with this session's own texts for some functions)
import Derived.Test.YtfmbcfbbhokbaaaDoorPFnExactWinningMovex0
import Derived.Test.YtfmbcfbbhokbaaaDoorPFnExactWinningMovex1
namespace Go.Proofs.YtfmbcfbbhokbaaaDoor.PFnExactWinningMove
open Go.RowKit Go.Proofs.YtfmbcfbbhokbaaaDoorW.PrintWords Go.Proofs.YtfmbcfbbhokbaaaDoorW.PrintLast Go.Proofs.YtfmbcfbbhokbaaaDoorW.PrintMore
attribute [local go_sem] max2_int min2_int max_two min_two max_three min_three max_four min_four   -- for this text's walks alone
set_option linter.unusedVariables false
set_option linter.unusedSimpArgs false

/-! ### spec_fgMove: function 49 -/
--USES helper_moved
def spec_fgMove.f (a0 : ByteArray) (a1 : Int) : Option (ByteArray) := if (a0.size ≤ 1000 ∧ asciiB a0 = true) ∧ 0 ≤ a1 ∧ a1 < (a0.size : Int) then (some (movedB a0 a1)) else none
def spec_fgMove.pre (s : ByteArray) (a1 tgt : Int) (n : Nat) : List UInt8 := (List.range n).map (movedAt s a1 tgt)
theorem spec_fgMove.one (s : ByteArray) (i : Nat) (h : i < s.size) : (s.extract i (i + 1)).data.toList = [s.data.toList.getD i 0] := by
  have hl : i < s.data.toList.length := by simpa using h
  have e : (s.extract i (i + 1)).data.toList = (s.data.toList.drop i).take 1 := by
    simp [ByteArray.data_extract, List.extract_eq_take_drop]
  rw [e, List.drop_eq_getElem_cons hl, List.getD_eq_getElem?_getD, List.getElem?_eq_getElem hl]; rfl
theorem spec_fgMove.step (s acc x : ByteArray) (a1 tgt : Int) (n : Nat) (h : acc.data.toList = spec_fgMove.pre s a1 tgt n) (hx : x.data.toList = [movedAt s a1 tgt n]) : (acc ++ x).data.toList = spec_fgMove.pre s a1 tgt (n + 1) := by
  have e : (acc ++ x).data.toList = acc.data.toList ++ x.data.toList := by simp
  rw [e, h, hx]
  unfold spec_fgMove.pre
  rw [List.range_succ, List.map_append]; rfl
theorem spec_fgMove.sz {s acc : ByteArray} {a1 tgt : Int} {n : Nat} (h : acc.data.toList = spec_fgMove.pre s a1 tgt n) : acc.size = n := by
  have h1 : acc.data.toList.length = acc.size := by simp
  rw [← h1, h]; simp [spec_fgMove.pre]
theorem spec_fgMove.fact {a b : Nat} (h : b ≤ a) : (a < b) = False := eq_false (by omega)
set_option maxHeartbeats 8000000 in
set_option maxRecDepth 100000 in
theorem spec_fgMove.calls (a0 : ByteArray) (a1 : Int) (r : ByteArray) (w : World) (h : spec_fgMove.f a0 a1 = some r) :
    Calls Tryd.prog 49 #[.string a0, .int .i64 a1] w fun e w' => e = .returned (.string r) ∧ Below w.heap.size w w' := by
  unfold spec_fgMove.f at h
  by_cases c : (a0.size ≤ 1000 ∧ asciiB a0 = true) ∧ 0 ≤ a1 ∧ a1 < (a0.size : Int)
  case neg => rw [if_neg c] at h; cases h
  rw [if_pos c] at h
  have HR := Aside0.mk (Option.some.inj h)
  have HC := Aside0.mk c
  clear h
  obtain ⟨tgt, hto⟩ : ∃ tgt, frogTo a0 a1 = tgt := ⟨_, rfl⟩
  have HT := Aside0.mk (show spec_fgTo.f a0 a1 = some tgt by unfold spec_fgTo.f; rw [if_pos c.1.1, hto])
  have HTO := Aside0.mk hto
  clear hto
  obtain ⟨b1, hb1⟩ : ∃ b1, wrap64 (a1 + 1) = b1 := ⟨_, rfl⟩
  have hb1v : b1 = a1 + 1 := by rw [← hb1]; unfold wrap64; omega
  have hb1w : IntKind.i64.wrap (a1 + 1) = b1 := (i64_w _).trans hb1
  have HB1 := Aside0.mk hb1v
  have g1 : (0 ≤ a1) = True := eq_true c.2.1
  have g2 : (a1 ≤ b1) = True := eq_true (by omega)
  have g3 : (b1 ≤ (a0.size : Int)) = True := eq_true (by omega)
  clear c hb1v
  go_enter Tryd.func49, Tryd.ntmps49
  go_wp2_with (go_at_call 48; (with_reducible refine (spec_fgTo.calls a0 a1 tgt _ HT.out).mono ?_); rintro e w' ⟨rfl, ⟨nd, rfl⟩⟩)
  go_loopg [6] (a0.size) (fun kq v6 w' => ∃ (acc : ByteArray) (pos : Nat), v6 = .string acc ∧ Aside0 (kq + pos = a0.size) ∧ Aside0 (acc.data.toList = spec_fgMove.pre a0 a1 tgt pos) ∧ Aside0 (Below w.heap.size w w') ∧ Aside0 (w'.heap[w.heap.size]? = some (.stringIter a0 pos)))
  case atStart => exact ⟨⟨#[]⟩, 0, rfl, ⟨rfl⟩, ⟨rfl⟩, ⟨below_alloc (pw_below_drewN (Below.refl _ _) _) _⟩, ⟨World.iter_heap (w.drewN nd) a0 0⟩⟩
  case round =>
    obtain ⟨acc, pos, rfl, HK, HA, HB, HI⟩ := hrel
    by_cases c2 : pos < a0.size
    · have hk0 : gk ≠ 0 := by have := HK.out; omega
      obtain ⟨k1, rfl⟩ : ∃ k1, gk = k1 + 1 := ⟨gk - 1, by omega⟩
      clear hk0
      obtain ⟨W2, hnx0, hI2, hoth, hsz, hos, htp, hout⟩ := iter_next (P := Tryd.prog) wr w.heap.size a0 pos HI.out c2 (asciiB_at HC.out.1.2 pos c2)
      have hB2 : Below w.heap.size w W2 := by
        have hb := HB.out
        exact ⟨hos.trans hb.os, htp.trans hb.tape, hout.trans hb.output, by rw [hsz]; exact hb.size, fun k hk => (hoth k (by omega)).trans (hb.block k hk)⟩
      clear HI HB hoth hsz hos htp hout
      obtain ⟨p, hp⟩ : ∃ p : Int, (pos : Int) = p := ⟨_, rfl⟩
      obtain ⟨ch, hch⟩ : ∃ ch : Int, ((a0[pos]'c2).toNat : Int) = ch := ⟨_, rfl⟩
      have hnx : ∀ ty, (Instr.next (.pointer (some ⟨w.heap.size, 0, none⟩)) true ty).run Tryd.prog wr = .ok (.tuple #[.bool true, .int .i64 p, .int .i32 ch]) W2 := fun ty => by rw [hnx0 ty, hp, hch]
      clear hnx0 hch
      have HB := Aside0.mk hB2
      have HI := Aside0.mk hI2
      clear hB2 hI2
      have hacc := spec_fgMove.sz HA.out
      have s1000 := HC.out.1.1
      obtain ⟨q, hq⟩ : ∃ q, wrap64 (p + 1) = q := ⟨_, rfl⟩
      have hqv : q = p + 1 := by rw [← hq]; unfold wrap64; omega
      have hqw : IntKind.i64.wrap (p + 1) = q := (i64_w _).trans hq
      have k1' : (0 ≤ p) = True := eq_true (by omega)
      have k2' : (p ≤ q) = True := eq_true (by omega)
      have k3' : (q ≤ (a0.size : Int)) = True := eq_true (by omega)
      have hb1v := HB1.out
      have n1 := spec_fgMove.fact (a := 9223372036854775807) (b := acc.size + 1) (by omega)
      have n2 := spec_fgMove.fact (a := 9223372036854775807) (b := acc.size + (a0.extract a1.toNat b1.toNat).size) (by simp only [ByteArray.size_extract]; omega)
      have n3 := spec_fgMove.fact (a := 9223372036854775807) (b := acc.size + (b1.toNat - a1.toNat)) (by have := of_eq_true g1; omega)
      have n4 := spec_fgMove.fact (a := 9223372036854775807) (b := acc.size + (min b1.toNat a0.size - a1.toNat)) (by omega)
      have n5 := spec_fgMove.fact (a := 9223372036854775807) (b := acc.size + (a0.extract p.toNat q.toNat).size) (by simp only [ByteArray.size_extract]; omega)
      have n6 := spec_fgMove.fact (a := 9223372036854775807) (b := acc.size + (q.toNat - p.toNat)) (by omega)
      have n7 := spec_fgMove.fact (a := 9223372036854775807) (b := acc.size + (min q.toNat a0.size - p.toNat)) (by omega)
      have X1 := Aside0.mk (show (a0.extract p.toNat q.toNat).data.toList = [a0.data.toList.getD pos 0] from by
        rw [show p.toNat = pos by omega, show q.toNat = pos + 1 by omega]; exact spec_fgMove.one a0 pos c2)
      have X2 := Aside0.mk (show (a0.extract a1.toNat b1.toNat).data.toList = [a0.data.toList.getD a1.toNat 0] from by
        have h3 := HC.out.2
        rw [show b1.toNat = a1.toNat + 1 by omega]; exact spec_fgMove.one a0 a1.toNat (by omega))
      have HP := Aside0.mk hp
      clear hqv hacc s1000 hb1v hp
      by_cases d1 : p = a1
      · have d1b : (p == a1) = true := beq_iff_eq.mpr d1
        have D1 := Aside0.mk d1
        clear d1
        go_wp2
        go_roundg k1
        case measure => have := HK.out; omega
        case rel => exact ⟨acc ++ ⟨#[46]⟩, pos + 1, rfl, ⟨by have := HK.out; omega⟩, ⟨spec_fgMove.step a0 acc _ a1 tgt pos HA.out (by unfold movedAt; rw [if_pos (HP.out.trans D1.out)])⟩, HB, HI⟩
      · have d1b : (p == a1) = false := beq_eq_false_iff_ne.mpr d1
        have D1 := Aside0.mk d1
        clear d1
        by_cases d2 : p = tgt
        · have d2b : (p == tgt) = true := beq_iff_eq.mpr d2
          have D2 := Aside0.mk d2
          clear d2
          go_wp2
          go_roundg k1
          case measure => have := HK.out; omega
          case rel => exact ⟨acc ++ a0.extract a1.toNat b1.toNat, pos + 1, rfl, ⟨by have := HK.out; omega⟩, ⟨spec_fgMove.step a0 acc _ a1 tgt pos HA.out (by rw [X2.out]; unfold movedAt; rw [if_neg (fun e => D1.out (HP.out.symm.trans e)), if_pos (HP.out.trans D2.out)])⟩, HB, HI⟩
        · have d2b : (p == tgt) = false := beq_eq_false_iff_ne.mpr d2
          have D2 := Aside0.mk d2
          clear d2
          go_wp2
          go_roundg k1
          case measure => have := HK.out; omega
          case rel => exact ⟨acc ++ a0.extract p.toNat q.toNat, pos + 1, rfl, ⟨by have := HK.out; omega⟩, ⟨spec_fgMove.step a0 acc _ a1 tgt pos HA.out (by rw [X1.out]; unfold movedAt; rw [if_neg (fun e => D1.out (HP.out.symm.trans e)), if_neg (fun e => D2.out (HP.out.symm.trans e))])⟩, HB, HI⟩
    · have hnx : ∀ ty, (Instr.next (.pointer (some ⟨w.heap.size, 0, none⟩)) true ty).run Tryd.prog wr = .ok (.tuple #[.bool false]) wr := fun ty => iter_end wr w.heap.size a0 pos ty HI.out c2
      have HE := Aside0.mk (show acc = r from by
        have hk := HK.out
        have hI := HI.out
        have h1 := spec_fgMove.sz HA.out
        have h2 : pos = a0.size := by
          by_cases h3 : gk = 0
          · omega
          · omega
        rw [← HR.out]
        have e : acc.data.toList = (movedB a0 a1).data.toList := by
          rw [HA.out, h2]
          unfold movedB spec_fgMove.pre
          rw [HTO.out]
        cases acc
        congr 1
        exact Array.toList_inj.1 e)
      clear c2
      go_wp2
      go_ret
      exact ⟨by rw [HE.out]; rfl, HB.out⟩


/-! ### spec_fgWinning: function 58 -/
mutual
def spec_fgWinning.l0 : Nat → ByteArray → Bool → List Int → Int → Option (Int)
  | 0, _, _, _, _ => none
  | k + 1, s, b, l, i => if i < (l.length : Int) then (if 0 ≤ i then (if 0 ≤ rd l i then (if rd l i < (s.size : Int) then (if ((bt s (rd l i) == 114) == b) = true then ((spec_fgMove.f s (rd l i)).bind fun t => (spec_fgWinning.f k t (!b)).bind fun r => (if 0 ≤ r then (spec_fgWinning.l0 k s b l (wrap64 (i + 1))) else (some (rd l i)))) else (spec_fgWinning.l0 k s b l (wrap64 (i + 1)))) else (none)) else (none)) else (none)) else (some (-1))
def spec_fgWinning.f : Nat → ByteArray → Bool → Option (Int)
  | 0, _, _ => none
  | k + 1, s, b => (spec_fgMoves.f s).bind fun l => (spec_fgWinning.l0 k s b l 0)
end
theorem spec_fgWinning.mono_l : ∀ k, (∀ y0 y1, LeO (spec_fgWinning.f k y0 y1) (spec_fgWinning.f (k + 1) y0 y1)) ∧ (∀ y0 y1 y2 y3, LeO (spec_fgWinning.l0 k y0 y1 y2 y3) (spec_fgWinning.l0 (k + 1) y0 y1 y2 y3))
  | 0 => ⟨fun _ _ r h => by simp [spec_fgWinning.f] at h, fun _ _ _ _ r h => by simp [spec_fgWinning.l0] at h⟩
  | k + 1 => by
    obtain ⟨ih0, ih1⟩ := spec_fgWinning.mono_l k
    refine ⟨?_, ?_⟩
    · intro y0 y1
      unfold spec_fgWinning.f
      repeat' first
      | (with_reducible exact ih0 _ _)
      | (with_reducible exact ih1 _ _ _ _)
      | (with_reducible exact LeO.refl _)
      | (with_reducible exact LeO.none _)
      | (with_reducible refine LeO.ite ?_ ?_)
      | (with_reducible refine LeO.bind ?_ (fun _ => ?_))
    · intro y0 y1 y2 y3
      unfold spec_fgWinning.l0
      repeat' first
      | (with_reducible exact ih0 _ _)
      | (with_reducible exact ih1 _ _ _ _)
      | (with_reducible exact LeO.refl _)
      | (with_reducible exact LeO.none _)
      | (with_reducible refine LeO.ite ?_ ?_)
      | (with_reducible refine LeO.bind ?_ (fun _ => ?_))
theorem spec_fgWinning.mono : ∀ a0 a1 k, LeO (spec_fgWinning.f k a0 a1) (spec_fgWinning.f (k + 1) a0 a1) := fun a0 a1 k => (spec_fgWinning.mono_l k).1 a0 a1
theorem spec_fgWinning.wins {s : ByteArray} {b : Bool} {r : Int} (q : Bool) (hq : decide (0 ≤ r) = q) (H : ∀ w : World, Calls Tryd.prog 58 #[.string s, .bool b] w fun e w' => e = .returned (.int .i64 r) ∧ Below w.heap.size w w') (w : World) :
    Calls Tryd.prog 56 #[.string s, .bool b] w fun e w' => e = .returned (.bool q) ∧ Below w.heap.size w w' := by
  have HH := Aside0.mk H
  clear H
  go_enter Tryd.func56, Tryd.ntmps56
  go_wp2_with (go_at_call 58; (with_reducible refine (HH.out _).mono ?_); rintro e w' ⟨rfl, hb⟩; have HB := Aside0.mk hb; clear hb)
  go_ret
  exact ⟨by first | rfl | (simp; done) | (simp [*]; done), HB.out⟩
set_option maxHeartbeats 8000000 in
set_option maxRecDepth 100000 in
theorem spec_fgWinning.calls (k : Nat) : ∀ (a0 : ByteArray) (a1 : Bool) (r : Int) (w : World) (h : spec_fgWinning.f k a0 a1 = some r),
    Calls Tryd.prog 58 #[.string a0, .bool a1] w fun e w' => e = .returned (.int .i64 r) ∧ Below w.heap.size w w' := by
  induction k using Nat.strongRecOn with
  | _ k ih =>
  intro a0 a1 r w h
  cases k with
  | zero => exact absurd h (by simp [spec_fgWinning.f])
  | succ k =>
  simp only [spec_fgWinning.f] at h
  have HB := Aside0.mk (Below.refl w.heap.size w)
  replace H := Option.bind_eq_some_iff.mp h
  clear h
  obtain ⟨t117, A50, H⟩ := H
  replace H : (spec_fgWinning.l0 k a0 a1 t117 0) = some r := H
  have A5 := Aside0.mk A50
  clear A50
  have H' := Aside0.mk H
  clear H
  go_enter Tryd.func58, Tryd.ntmps58
  go_wp2_with (first | (go_at_call 46; (with_reducible refine (spec_fgMoves.calls a0 t117 _ A5.out).mono ?_); rintro e w6 ⟨v118, rfl, ho0, hb⟩; have n0_ := Aside0.mk (Kd.R_lower ho0 (below_size (by repeat (first | (with_reducible first | exact HB.out | apply below_alloc | apply pw_below_drewN | apply below_drew1) | exact HB.out)))); have n1_ := Aside0.mk (below_step (by repeat (first | (with_reducible first | exact HB.out | apply below_alloc | apply pw_below_drewN | apply below_drew1) | exact HB.out)) hb); clear HB; have HO119 := n0_; have HB := n1_; clear n0_ n1_; (try clear hb); (try clear ho0); obtain ⟨Ao7, co7, eo7⟩ := Kd.R_slice HO119.out; subst eo7))
  go_loopg [10] k (fun kq v12 w' => ∃ (x12_2 : Int), v12 = .int .i64 x12_2 ∧ Aside0 (spec_fgWinning.l0 kq a0 a1 t117 x12_2 = some r) ∧ Aside0 (kq ≤ k) ∧ Aside0 (Kd.R (Kd.int .i64) 3 w' w.heap.size (fun _ => True) (.slice Ao7 t117.length co7) t117) ∧ Aside0 (Below w.heap.size w w'))
  case atStart => exact ⟨(0), (by first | rfl | (simp; done) | (simp [*]; done)), H', ⟨Nat.le_refl _⟩, ⟨by (with_reducible repeat (first | apply Kd.R_alloc | apply Kd.R_drewN | apply Kd.R_drew)); exact HO119.out⟩, ⟨by repeat (first | (with_reducible first | exact HB.out | apply below_alloc | apply pw_below_drewN | apply below_drew1) | exact HB.out)⟩⟩
  case round =>
    clear H'
    obtain ⟨x12_2, rfl, HA, HK2, HO_10, HB⟩ := hrel
    cases gk with
    | zero => exact absurd HA.out (by simp [spec_fgWinning.l0])
    | succ k2 =>
      have H := HA.out
      clear HA
      simp only [spec_fgWinning.l0] at H
      by_cases c8 : x12_2 < (t117.length : Int)
      case neg =>
        rw [if_neg c8] at H
        have c8b0 : decide (x12_2 < (t117.length : Int)) = false := decide_eq_false c8
        clear c8
        obtain rfl := Option.some.inj H
        go_wp2
        go_ret
        exact ⟨by first | rfl | (simp; done) | (simp [*]; done), by repeat (first | (with_reducible first | exact HB.out | apply below_alloc | apply pw_below_drewN | apply below_drew1) | exact HB.out)⟩
      case pos =>
        rw [if_pos c8] at H
        have c8b0 : decide (x12_2 < (t117.length : Int)) = true := decide_eq_true c8
        by_cases c9 : 0 ≤ x12_2
        case neg => rw [if_neg c9] at H; exact absurd H (by simp)
        rw [if_pos c9] at H
        by_cases c11 : 0 ≤ (rd t117 x12_2)
        case neg => rw [if_neg c11] at H; exact absurd H (by simp)
        rw [if_pos c11] at H
        by_cases c12 : (rd t117 x12_2) < (a0.size : Int)
        case neg => rw [if_neg c12] at H; exact absurd H (by simp)
        rw [if_pos c12] at H
        obtain ⟨ad120, e120, hx120_0⟩ := Kd.at_int (Kd.R_reads' HO_10.out).2.2 x12_2 c9 c8
        cases e120
        have p120 := eq_true c9
        have q120 := eq_true c8
        have p13 := eq_true c11
        have q13 := eq_true c12
        have hx13 := bt_at a0 (rd t117 x12_2)
        clear c8 c9 c11 c12
        by_cases c14 : ((bt a0 (rd t117 x12_2) == 114) == a1) = true
        case neg =>
          rw [if_neg c14] at H
          have c14b : ((bt a0 (rd t117 x12_2) == 114) == a1) = false := by simpa using c14
          clear c14
          have H' := Aside0.mk H
          clear H
          go_wp2
          go_roundg k2
          case measure => have := HK2.out; omega
          case rel => exact ⟨(wrap64 (x12_2 + 1)), (by first | rfl | (simp; done) | (simp [*]; done)), H', ⟨by have := HK2.out; omega⟩, ⟨by (with_reducible repeat (first | apply Kd.R_alloc | apply Kd.R_drewN | apply Kd.R_drew)); exact HO_10.out⟩, ⟨by repeat (first | (with_reducible first | exact HB.out | apply below_alloc | apply pw_below_drewN | apply below_drew1) | exact HB.out)⟩⟩
        case pos =>
          rw [if_pos c14] at H
          replace H := Option.bind_eq_some_iff.mp H
          obtain ⟨t121, A150, H⟩ := H
          have A15 := Aside0.mk A150
          clear A150
          replace H := Option.bind_eq_some_iff.mp H
          obtain ⟨t122, A160, H⟩ := H
          have A16 := Aside0.mk A160
          clear A160
          by_cases c17 : 0 ≤ t122
          · rw [if_pos c17] at H
            have WW := Aside0.mk (spec_fgWinning.wins true (decide_eq_true c17) (fun w => ih k2 (by have := HK2.out; omega) t121 (!a1) t122 w A16.out))
            clear c17
            have H' := Aside0.mk H
            clear H
            go_wp2_with (first | (go_at_call 49; (with_reducible refine (spec_fgMove.calls a0 (rd t117 x12_2) t121 _ A15.out).mono ?_); rintro e w18 ⟨rfl, hb⟩; have n0_ := Aside0.mk (Kd.R_below (by (with_reducible repeat (first | apply Kd.R_alloc | apply Kd.R_drewN | apply Kd.R_drew)); exact HO_10.out) hb); have n1_ := Aside0.mk (below_step (by repeat (first | (with_reducible first | exact HB.out | apply below_alloc | apply pw_below_drewN | apply below_drew1) | exact HB.out)) hb); clear HO_10; clear HB; have HO_10 := n0_; have HB := n1_; clear n0_ n1_; (try clear hb)) | (go_at_call 56; (with_reducible refine (WW.out _).mono ?_); rintro e w19 ⟨rfl, hb⟩; have n0_ := Aside0.mk (Kd.R_below (by (with_reducible repeat (first | apply Kd.R_alloc | apply Kd.R_drewN | apply Kd.R_drew)); exact HO_10.out) hb); have n1_ := Aside0.mk (below_step (by repeat (first | (with_reducible first | exact HB.out | apply below_alloc | apply pw_below_drewN | apply below_drew1) | exact HB.out)) hb); clear HO_10; clear HB; have HO_10 := n0_; have HB := n1_; clear n0_ n1_; (try clear hb)))
            go_roundg k2
            case measure => have := HK2.out; omega
            case rel => exact ⟨(wrap64 (x12_2 + 1)), (by first | rfl | (simp; done) | (simp [*]; done)), H', ⟨by have := HK2.out; omega⟩, ⟨by (with_reducible repeat (first | apply Kd.R_alloc | apply Kd.R_drewN | apply Kd.R_drew)); exact HO_10.out⟩, ⟨by repeat (first | (with_reducible first | exact HB.out | apply below_alloc | apply pw_below_drewN | apply below_drew1) | exact HB.out)⟩⟩
          · rw [if_neg c17] at H
            have WW := Aside0.mk (spec_fgWinning.wins false (decide_eq_false c17) (fun w => ih k2 (by have := HK2.out; omega) t121 (!a1) t122 w A16.out))
            clear c17
            obtain rfl := Option.some.inj H
            go_wp2_with (first | (go_at_call 49; (with_reducible refine (spec_fgMove.calls a0 (rd t117 x12_2) t121 _ A15.out).mono ?_); rintro e w18 ⟨rfl, hb⟩; have n0_ := Aside0.mk (Kd.R_below (by (with_reducible repeat (first | apply Kd.R_alloc | apply Kd.R_drewN | apply Kd.R_drew)); exact HO_10.out) hb); have n1_ := Aside0.mk (below_step (by repeat (first | (with_reducible first | exact HB.out | apply below_alloc | apply pw_below_drewN | apply below_drew1) | exact HB.out)) hb); clear HO_10; clear HB; have HO_10 := n0_; have HB := n1_; clear n0_ n1_; (try clear hb)) | (go_at_call 56; (with_reducible refine (WW.out _).mono ?_); rintro e w19 ⟨rfl, hb⟩; have n0_ := Aside0.mk (Kd.R_below (by (with_reducible repeat (first | apply Kd.R_alloc | apply Kd.R_drewN | apply Kd.R_drew)); exact HO_10.out) hb); have n1_ := Aside0.mk (below_step (by repeat (first | (with_reducible first | exact HB.out | apply below_alloc | apply pw_below_drewN | apply below_drew1) | exact HB.out)) hb); clear HO_10; clear HB; have HO_10 := n0_; have HB := n1_; clear n0_ n1_; (try clear hb)))
            go_ret
            exact ⟨by first | rfl | (simp; done) | (simp [*]; done), by repeat (first | (with_reducible first | exact HB.out | apply below_alloc | apply pw_below_drewN | apply below_drew1) | exact HB.out)⟩

/-! ### spec_WinningMove: function 34 -/
def spec_WinningMove.f (k : Nat) (a0 : ByteArray) (a1 : Bool) : Option (Int × Bool) := (spec_fgGood.f k a0).bind fun t102 => (if t102 = true then ((spec_fgWinning.f k a0 a1).bind fun t103 => (if t103 ≥ 0 then (some (t103, true)) else (some (0, false)))) else (some (0, false)))
theorem spec_WinningMove.mono : ∀ a0 a1 k, LeO (spec_WinningMove.f k a0 a1) (spec_WinningMove.f (k + 1) a0 a1) := by
  intro a0 a1 k
  unfold spec_WinningMove.f
  repeat' first
      | (with_reducible exact spec_fgGood.mono _ _)
      | (with_reducible exact spec_fgWinning.mono _ _ _)
      | (with_reducible exact LeO.refl _)
      | (with_reducible exact LeO.none _)
      | (with_reducible refine LeO.ite ?_ ?_)
      | (with_reducible refine LeO.bind ?_ (fun _ => ?_))
      | exact spec_fgGood.mono _ _
      | exact spec_fgWinning.mono _ _ _
      | exact LeO.none _
      | refine LeO.ite ?_ ?_
      | refine LeO.bind ?_ (fun _ => ?_)
set_option maxHeartbeats 8000000 in
set_option maxRecDepth 100000 in
theorem spec_WinningMove.calls (k : Nat) (a0 : ByteArray) (a1 : Bool) (r1 : Int) (r2 : Bool) (w : World) (h : spec_WinningMove.f k a0 a1 = some (r1, r2)) :
    Calls Tryd.prog 34 #[.string a0, .bool a1] w fun e w' => e = .returned (.tuple #[.int .i64 r1, .bool r2]) ∧ Below w.heap.size w w' := by
  have HB := Aside0.mk (Below.refl w.heap.size w)
  have H : ((spec_fgGood.f k a0).bind fun t102 => (if t102 = true then ((spec_fgWinning.f k a0 a1).bind fun t103 => (if t103 ≥ 0 then (some (t103, true)) else (some (0, false)))) else (some (0, false)))) = some (r1, r2) := h
  clear h
  replace H := Option.bind_eq_some_iff.mp H
  obtain ⟨t102, A30, H⟩ := H
  replace H : (if t102 = true then ((spec_fgWinning.f k a0 a1).bind fun t103 => (if t103 ≥ 0 then (some (t103, true)) else (some (0, false)))) else (some (0, false))) = some (r1, r2) := H
  have A3 := Aside0.mk A30
  clear A30
  by_cases c4 : t102 = true
  · subst c4
    have H1 : ((spec_fgWinning.f k a0 a1).bind fun t103 => (if t103 ≥ 0 then (some (t103, true)) else (some (0, false)))) = some (r1, r2) := by rw [if_pos rfl] at H; exact H
    clear H
    have H := H1
    clear H1
    replace H := Option.bind_eq_some_iff.mp H
    obtain ⟨t103, A50, H⟩ := H
    replace H : (if t103 ≥ 0 then (some (t103, true)) else (some (0, false))) = some (r1, r2) := H
    have A5 := Aside0.mk A50
    clear A50
    by_cases c6 : t103 ≥ 0
    · rw [if_pos c6] at H
      have c6b0 : decide (0 ≤ t103) = true := decide_eq_true c6
      clear c6
      simp only [Option.some.injEq, Prod.mk.injEq] at H
      obtain ⟨rfl, rfl⟩ := H
      go_enter Tryd.func34, Tryd.ntmps34
      go_wp2_with (first | ((with_reducible refine gate_callee (f := 43) rfl ?_); refine goesL_ (some 8) rfl rfl Tryd.func43 (by kernel_rfl) rfl #[.string a0] rfl (by (try simp only [List.map_toArray, List.map_cons, List.map_nil]); first | done | rfl | (simp only [List.length_drop, List.length_take]; rfl)) ?_; (with_reducible refine (spec_fgGood.calls k a0 true _ A3.out).mono ?_); rintro e w' ⟨rfl, ⟨nd, rfl⟩⟩; refine ⟨_, rfl, ?_⟩) | ((with_reducible refine gate_callee (f := 58) rfl ?_); refine goesL_ (some 12) rfl rfl Tryd.func58 (by kernel_rfl) rfl #[.string a0, .bool a1] rfl (by (try simp only [List.map_toArray, List.map_cons, List.map_nil]); first | done | rfl | (simp only [List.length_drop, List.length_take]; rfl)) ?_; (with_reducible refine (spec_fgWinning.calls k a0 a1 t103 _ A5.out).mono ?_); rintro e w7 ⟨rfl, hb⟩; refine ⟨_, rfl, ?_⟩; have n0_ := Aside0.mk (below_step (by repeat (first | (with_reducible first | exact HB.out | apply below_alloc | apply pw_below_drewN | apply below_drew1) | exact HB.out)) hb); clear HB; have HB := n0_; clear n0_; (try clear hb); (try clear hb2); (try clear hk); (try clear hi)))
      go_ret2
      exact ⟨by first | rfl | (simp [errW_none, errW_some] <;> rfl) | (simp [*, errW_none, errW_some] <;> rfl), by repeat (first | (with_reducible first | exact HB.out | apply below_alloc | apply pw_below_drewN | apply below_drew1) | exact HB.out)⟩
    · rw [if_neg c6] at H
      have c6b0 : decide (0 ≤ t103) = false := decide_eq_false c6
      clear c6
      simp only [Option.some.injEq, Prod.mk.injEq] at H
      obtain ⟨rfl, rfl⟩ := H
      go_enter Tryd.func34, Tryd.ntmps34
      go_wp2_with (first | ((with_reducible refine gate_callee (f := 43) rfl ?_); refine goesL_ (some 8) rfl rfl Tryd.func43 (by kernel_rfl) rfl #[.string a0] rfl (by (try simp only [List.map_toArray, List.map_cons, List.map_nil]); first | done | rfl | (simp only [List.length_drop, List.length_take]; rfl)) ?_; (with_reducible refine (spec_fgGood.calls k a0 true _ A3.out).mono ?_); rintro e w' ⟨rfl, ⟨nd, rfl⟩⟩; refine ⟨_, rfl, ?_⟩) | ((with_reducible refine gate_callee (f := 58) rfl ?_); refine goesL_ (some 12) rfl rfl Tryd.func58 (by kernel_rfl) rfl #[.string a0, .bool a1] rfl (by (try simp only [List.map_toArray, List.map_cons, List.map_nil]); first | done | rfl | (simp only [List.length_drop, List.length_take]; rfl)) ?_; (with_reducible refine (spec_fgWinning.calls k a0 a1 t103 _ A5.out).mono ?_); rintro e w8 ⟨rfl, hb⟩; refine ⟨_, rfl, ?_⟩; have n0_ := Aside0.mk (below_step (by repeat (first | (with_reducible first | exact HB.out | apply below_alloc | apply pw_below_drewN | apply below_drew1) | exact HB.out)) hb); clear HB; have HB := n0_; clear n0_; (try clear hb); (try clear hb2); (try clear hk); (try clear hi)))
      go_ret2
      exact ⟨by first | rfl | (simp [errW_none, errW_some] <;> rfl) | (simp [*, errW_none, errW_some] <;> rfl), by repeat (first | (with_reducible first | exact HB.out | apply below_alloc | apply pw_below_drewN | apply below_drew1) | exact HB.out)⟩
  · replace c4 := Bool.eq_false_iff.mpr c4
    subst c4
    have H1 : (some (0, false)) = some (r1, r2) := by rw [if_neg (show ¬ (false = true) by decide)] at H; exact H
    clear H
    have H := H1
    clear H1
    simp only [Option.some.injEq, Prod.mk.injEq] at H
    obtain ⟨rfl, rfl⟩ := H
    go_enter Tryd.func34, Tryd.ntmps34
    go_wp2_with (first | ((with_reducible refine gate_callee (f := 43) rfl ?_); refine goesL_ (some 8) rfl rfl Tryd.func43 (by kernel_rfl) rfl #[.string a0] rfl (by (try simp only [List.map_toArray, List.map_cons, List.map_nil]); first | done | rfl | (simp only [List.length_drop, List.length_take]; rfl)) ?_; (with_reducible refine (spec_fgGood.calls k a0 false _ A3.out).mono ?_); rintro e w' ⟨rfl, ⟨nd, rfl⟩⟩; refine ⟨_, rfl, ?_⟩))
    go_ret2
    exact ⟨by first | rfl | (simp [errW_none, errW_some] <;> rfl) | (simp [*, errW_none, errW_some] <;> rfl), by repeat (first | (with_reducible first | exact HB.out | apply below_alloc | apply pw_below_drewN | apply below_drew1) | exact HB.out)⟩

/-! ### impl_within: function 44 -/
def impl_within.f (a0 : Int) (a1 : Int) (a2 : Int) : Option (Bool) := if a1 ≤ a0 then (some (decide (a0 ≤ a2))) else (some false)
set_option maxHeartbeats 8000000 in
set_option maxRecDepth 100000 in
theorem impl_within.calls (a0 : Int) (a1 : Int) (a2 : Int) (r : Bool) (w : World) (h : impl_within.f a0 a1 a2 = some r) :
    Calls Tryd.prog 44 #[.int .i64 a0, .int .i64 a1, .int .i64 a2] w fun e w' => e = .returned (.bool r) ∧ Drawn0 w w' := by
  have H : (if a1 ≤ a0 then (some (decide (a0 ≤ a2))) else (some false)) = some r := h
  clear h
  by_cases c4 : a1 ≤ a0
  · rw [if_pos c4] at H
    have c4b0 : decide (a1 ≤ a0) = true := decide_eq_true c4
    clear c4
    obtain rfl := Option.some.inj H
    go_enter Tryd.func44, Tryd.ntmps44
    go_wp2
    go_ret
    exact ⟨by first | rfl | (simp; done) | (simp [*]; done), by repeat (first | exact Drawn0.refl _ | apply Drawn0.step)⟩
  · rw [if_neg c4] at H
    have c4b0 : decide (a1 ≤ a0) = false := decide_eq_false c4
    clear c4
    obtain rfl := Option.some.inj H
    go_enter Tryd.func44, Tryd.ntmps44
    go_wp2
    go_ret
    exact ⟨by first | rfl | (simp; done) | (simp [*]; done), by repeat (first | exact Drawn0.refl _ | apply Drawn0.step)⟩

/-! ### strings_Trim: function 45 -/
def strings_Trim.ok (cs : ByteArray) : Bool := cs.data.toList.all fun b => decide (b.toNat < 128)
def strings_Trim.f (a0 : ByteArray) (a1 : ByteArray) : Option (ByteArray) := if a0.size ≤ 9223372036854775807 ∧ a1.size < 4294967281 ∧ strings_Trim.ok a1 = true then (some ⟨(Lib.trimS a0.data.toList a1.data.toList).toArray⟩) else none
theorem strings_Trim.calls (a0 : ByteArray) (a1 : ByteArray) (r : ByteArray) (w : World) (h : strings_Trim.f a0 a1 = some r) :
    Calls Tryd.prog 45 #[.string a0, .string a1] w fun e w' => e = .returned (.string r) ∧ Below w.heap.size w w' := by
  unfold strings_Trim.f at h
  by_cases c : a0.size ≤ 9223372036854775807 ∧ a1.size < 4294967281 ∧ strings_Trim.ok a1 = true
  · rw [if_pos c] at h
    obtain rfl := Option.some.inj h
    obtain ⟨h0, h1, h2⟩ := c
    have hcon := Any.strings_Trim_laid Tryd.lays160 (by kernel_rfl) a0 a1 w h0 h1 (fun j b hb => by
      have h3 := List.all_eq_true.mp h2 b (List.mem_of_getElem? hb)
      exact of_decide_eq_true h3)
    exact hcon
  · rw [if_neg c] at h
    cases h


/-! ### impl_IsPond: function 15 -/
def impl_IsPond.f (a0 : ByteArray) : Option (Bool) := (impl_within.f (a0.size : Int) 1 9).bind fun t104 => (if t104 = true then ((strings_Trim.f a0 (⟨#[114, 108, 46]⟩ : ByteArray)).bind fun t105 => (some (t105.toList == ([] : List UInt8)))) else (some false))
set_option maxHeartbeats 8000000 in
set_option maxRecDepth 100000 in
theorem impl_IsPond.calls (a0 : ByteArray) (r : Bool) (w : World) (h : impl_IsPond.f a0 = some r) :
    Calls Tryd.prog 15 #[.string a0] w fun e w' => e = .returned (.bool r) ∧ Below w.heap.size w w' := by
  have HB := Aside0.mk (Below.refl w.heap.size w)
  have H : ((impl_within.f (a0.size : Int) 1 9).bind fun t104 => (if t104 = true then ((strings_Trim.f a0 (⟨#[114, 108, 46]⟩ : ByteArray)).bind fun t105 => (some (t105.toList == ([] : List UInt8)))) else (some false))) = some r := h
  clear h
  replace H := Option.bind_eq_some_iff.mp H
  obtain ⟨t104, A20, H⟩ := H
  replace H : (if t104 = true then ((strings_Trim.f a0 (⟨#[114, 108, 46]⟩ : ByteArray)).bind fun t105 => (some (t105.toList == ([] : List UInt8)))) else (some false)) = some r := H
  have A2 := Aside0.mk A20
  clear A20
  by_cases c3 : t104 = true
  · subst c3
    have H1 : ((strings_Trim.f a0 (⟨#[114, 108, 46]⟩ : ByteArray)).bind fun t105 => (some (t105.toList == ([] : List UInt8)))) = some r := by rw [if_pos rfl] at H; exact H
    clear H
    have H := H1
    clear H1
    replace H := Option.bind_eq_some_iff.mp H
    obtain ⟨t105, A40, H⟩ := H
    replace H : (some (t105.toList == ([] : List UInt8))) = some r := H
    have A4 := Aside0.mk A40
    clear A40
    obtain rfl := Option.some.inj H
    go_enter Tryd.func15, Tryd.ntmps15
    go_wp2_with (first | ((with_reducible refine gate_callee (f := 44) rfl ?_); refine goesL_ (some 5) rfl rfl Tryd.func44 (by kernel_rfl) rfl #[.int .i64 (a0.size : Int), .int .i64 1, .int .i64 9] rfl (by (try simp only [List.map_toArray, List.map_cons, List.map_nil]); first | done | rfl | (simp only [List.length_drop, List.length_take]; rfl)) ?_; (with_reducible refine (impl_within.calls (a0.size : Int) 1 9 true _ A2.out).mono ?_); rintro e w' ⟨rfl, ⟨nd, rfl⟩⟩; refine ⟨_, rfl, ?_⟩) | (go_at_call 45; (with_reducible refine (strings_Trim.calls a0 (⟨#[114, 108, 46]⟩ : ByteArray) t105 _ A4.out).mono ?_); rintro e w5 ⟨rfl, hb⟩; have n0_ := Aside0.mk (below_step (by repeat (first | (with_reducible first | exact HB.out | apply below_alloc | apply pw_below_drewN | apply below_drew1) | exact HB.out)) hb); clear HB; have HB := n0_; clear n0_; (try clear hb); (try clear hb2); (try clear hk); (try clear hi)))
    go_ret
    exact ⟨by first | rfl | (simp [errW_none, errW_some] <;> rfl) | (simp [*, errW_none, errW_some] <;> rfl), by repeat (first | (with_reducible first | exact HB.out | apply below_alloc | apply pw_below_drewN | apply below_drew1) | exact HB.out)⟩
  · replace c3 := Bool.eq_false_iff.mpr c3
    subst c3
    have H1 : (some false) = some r := by rw [if_neg (show ¬ (false = true) by decide)] at H; exact H
    clear H
    have H := H1
    clear H1
    obtain rfl := Option.some.inj H
    go_enter Tryd.func15, Tryd.ntmps15
    go_wp2_with (first | ((with_reducible refine gate_callee (f := 44) rfl ?_); refine goesL_ (some 5) rfl rfl Tryd.func44 (by kernel_rfl) rfl #[.int .i64 (a0.size : Int), .int .i64 1, .int .i64 9] rfl (by (try simp only [List.map_toArray, List.map_cons, List.map_nil]); first | done | rfl | (simp only [List.length_drop, List.length_take]; rfl)) ?_; (with_reducible refine (impl_within.calls (a0.size : Int) 1 9 false _ A2.out).mono ?_); rintro e w' ⟨rfl, ⟨nd, rfl⟩⟩; refine ⟨_, rfl, ?_⟩))
    go_ret
    exact ⟨by first | rfl | (simp [errW_none, errW_some] <;> rfl) | (simp [*, errW_none, errW_some] <;> rfl), by repeat (first | (with_reducible first | exact HB.out | apply below_alloc | apply pw_below_drewN | apply below_drew1) | exact HB.out)⟩

end Go.Proofs.YtfmbcfbbhokbaaaDoor.PFnExactWinningMove
