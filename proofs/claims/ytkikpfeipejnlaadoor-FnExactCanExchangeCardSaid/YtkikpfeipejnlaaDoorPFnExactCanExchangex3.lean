-- Printed by this session's eprint.py over the kit's print (with this session's own texts for some functions)
import Derived.Test.YtkikpfeipejnlaaDoorPFnExactCanExchangex0
import Derived.Test.YtkikpfeipejnlaaDoorPFnExactCanExchangex1
import Derived.Test.YtkikpfeipejnlaaDoorPFnExactCanExchangex2
namespace Go.Proofs.YtkikpfeipejnlaaDoor.PFnExactCanExchange
open Go.RowKit Go.Proofs.YtkikpfeipejnlaaDoorW.PrintWords Go.Proofs.YtkikpfeipejnlaaDoorW.PrintLast Go.Proofs.YtkikpfeipejnlaaDoorW.PrintMore
attribute [local go_sem] max2_int min2_int max_two min_two max_three min_three max_four min_four   -- for this text's walks alone
set_option linter.unusedVariables false
set_option linter.unusedSimpArgs false

/-! ### spec_fgExchange: function 44 -/
--USES helper_iter
def spec_fgExchange.kinds (s : ByteArray) : Nat → List UInt8
  | 0 => []
  | 1 => s.data.toList.filter (· == 108)
  | 2 => s.data.toList.filter (· == 108) ++ s.data.toList.filter (· == 46)
  | _ => s.data.toList.filter (· == 108) ++ s.data.toList.filter (· == 46) ++ s.data.toList.filter (· == 114)
def spec_fgExchange.f (a0 : ByteArray) : Option (ByteArray) := if a0.size ≤ 1000 ∧ asciiB a0 = true then some ⟨(spec_fgExchange.kinds a0 3).toArray⟩ else none
theorem spec_fgExchange.btD (s : ByteArray) (i : Nat) (h : i < s.size) : bt s (i : Int) = ((s.data.toList.getD i 0).toNat : Int) := by
  have hl : i < s.data.toList.length := by simpa using h
  unfold bt
  rw [dif_pos (by simpa using h), List.getD_eq_getElem?_getD, List.getElem?_eq_getElem hl]
  rfl
theorem spec_fgExchange.app (a b : ByteArray) : (a ++ b).data.toList = a.data.toList ++ b.data.toList := by simp
theorem spec_fgExchange.byte {b c : UInt8} (h : (b.toNat : Int) = (c.toNat : Int)) : b = c := UInt8.toNat_inj.1 (Int.ofNat.inj h)
theorem spec_fgExchange.byte' {b c : UInt8} (h : b = c) : (b.toNat : Int) = (c.toNat : Int) := by rw [h]
theorem spec_fgExchange.takeF (s : ByteArray) (i : Nat) (c : UInt8) (h : i < s.size) : (s.data.toList.take (i + 1)).filter (· == c) = (s.data.toList.take i).filter (· == c) ++ (if s.data.toList.getD i 0 = c then [s.data.toList.getD i 0] else []) := by
  have hl : i < s.data.toList.length := by simpa using h
  rw [List.take_add_one, List.filter_append, List.getElem?_eq_getElem hl, List.getD_eq_getElem?_getD, List.getElem?_eq_getElem hl]
  congr 1
  simp only [Option.toList_some, Option.getD_some, List.filter_cons, List.filter_nil, beq_iff_eq]
theorem spec_fgExchange.sz {a b s : ByteArray} {i : Nat} {c : UInt8} (h : a.data.toList = b.data.toList ++ (s.data.toList.take i).filter (· == c)) : a.size ≤ b.size + s.size := by
  have h1 : a.data.toList.length = a.size := by simp
  have h2 : b.data.toList.length = b.size := by simp
  have h3 : ((s.data.toList.take i).filter (· == c)).length ≤ s.size := by
    have e1 := List.length_filter_le (fun x => x == c) (s.data.toList.take i)
    have e2 : (s.data.toList.take i).length ≤ s.data.toList.length := by rw [List.length_take]; exact Nat.min_le_right _ _
    have e3 : s.data.toList.length = s.size := by simp
    omega
  have h4 := congrArg List.length h
  rw [List.length_append] at h4
  omega
theorem spec_fgExchange.kindsLen (s : ByteArray) (i : Nat) : (spec_fgExchange.kinds s i).length ≤ 3 * s.size := by
  have e3 : s.data.toList.length = s.size := by simp
  have e := fun c : UInt8 => List.length_filter_le (fun x => x == c) s.data.toList
  have e1 := e 108; have e2 := e 46; have e4 := e 114
  match i with
  | 0 => simp [spec_fgExchange.kinds]
  | 1 => simp only [spec_fgExchange.kinds]; omega
  | 2 => simp only [spec_fgExchange.kinds, List.length_append]; omega
  | n + 3 => simp only [spec_fgExchange.kinds, List.length_append]; omega
/-- The row of the three signs. -/
def spec_fgExchange.obj : Obj := .cells #[.int .u8 108, .int .u8 46, .int .u8 114] 5 (3, 4)
theorem spec_fgExchange.at {w : World} {B : Nat} (h : w.heap[B]? = some spec_fgExchange.obj) (j : Nat) (v : Value) (hv : (#[.int .u8 108, .int .u8 46, .int .u8 114] : Array Value)[j]? = some v) : w.cell? ⟨B, j, none⟩ = some v := by
  unfold World.cell?; rw [h]; exact hv
set_option maxHeartbeats 8000000 in
set_option maxRecDepth 100000 in
theorem spec_fgExchange.calls (a0 : ByteArray) (r : ByteArray) (w : World) (h : spec_fgExchange.f a0 = some r) :
    Calls Tryd.prog 44 #[.string a0] w fun e w' => e = .returned (.string r) ∧ Below w.heap.size w w' := by
  unfold spec_fgExchange.f at h
  by_cases c : a0.size ≤ 1000 ∧ asciiB a0 = true
  case neg => rw [if_neg c] at h; cases h
  rw [if_pos c] at h
  have HR := Aside0.mk (Option.some.inj h)
  have HC0 := Aside0.mk c
  clear h c
  have HX0 := Aside0.mk (show ∀ w' : World, w'.heap[w.heap.size]? = some spec_fgExchange.obj → w'.cell? ⟨w.heap.size, 0, none⟩ = some (.int .u8 108) from fun w' h => spec_fgExchange.at h 0 _ rfl)
  have HX1 := Aside0.mk (show ∀ w' : World, w'.heap[w.heap.size]? = some spec_fgExchange.obj → w'.cell? ⟨w.heap.size, 1, none⟩ = some (.int .u8 46) from fun w' h => spec_fgExchange.at h 1 _ rfl)
  have HX2 := Aside0.mk (show ∀ w' : World, w'.heap[w.heap.size]? = some spec_fgExchange.obj → w'.cell? ⟨w.heap.size, 2, none⟩ = some (.int .u8 114) from fun w' h => spec_fgExchange.at h 2 _ rfl)
  have hcv := Lib.run_convert_bytes_const (P := Tryd.prog) w 70 5 #[.int .u8 108, .int .u8 46, .int .u8 114] 3 3 Tryd.underlying70 Tryd.underlying5
  go_enter Tryd.func44, Tryd.ntmps44
  go_wp2
  go_loopg [3, 10] 3 (fun kq v3 v10 w' => ∃ (acc : ByteArray) (i : Nat), v3 = .string acc ∧ v10 = .int .i64 (i : Int) ∧ Aside0 (kq + i = 3) ∧ Aside0 (acc.data.toList = spec_fgExchange.kinds a0 i) ∧ Aside0 (w'.heap[w.heap.size]? = some spec_fgExchange.obj) ∧ Aside0 (w.heap.size < w'.heap.size) ∧ Aside0 (Below w.heap.size w w'))
  case atStart => exact ⟨⟨#[]⟩, 0, rfl, rfl, ⟨rfl⟩, ⟨rfl⟩, ⟨by show (w.heap.push _)[w.heap.size]? = _; rw [Array.getElem?_push_size]; rfl⟩, ⟨by show w.heap.size < (w.heap.push _).size; rw [Array.size_push]; omega⟩, ⟨below_alloc (Below.refl _ _) _⟩⟩
  case round =>
    obtain ⟨acc, i, rfl, rfl, HKi, HA, HC, HSZ, HB⟩ := hrel
    rename World => wo
    have hi : i = 0 ∨ i = 1 ∨ i = 2 ∨ i = 3 := by have := HKi.out; omega
    have hkl := spec_fgExchange.kindsLen a0 i
    rw [← HA.out] at hkl
    have hAs : acc.size ≤ 3 * a0.size := by have h1 : acc.data.toList.length = acc.size := by simp
                                            omega
    clear hkl
    have HAS := Aside0.mk hAs
    clear hAs
    rcases hi with rfl | rfl | rfl | rfl

    · -- kind 108
      have hcx := HX0.out wo HC.out
      have HWR := Aside0.mk (Below.refl wo.heap.size wo)
      go_wp2
      go_loopg [3] (a0.size) (fun kq v3 w' => ∃ (acc2 : ByteArray) (pos : Nat), v3 = .string acc2 ∧ Aside0 (kq + pos = a0.size) ∧ Aside0 (acc2.data.toList = acc.data.toList ++ (a0.data.toList.take pos).filter (· == 108)) ∧ Aside0 (Below wo.heap.size wo w') ∧ Aside0 (w'.heap[wo.heap.size]? = some (.stringIter a0 pos)))
      case atStart => exact ⟨acc, 0, rfl, ⟨rfl⟩, ⟨by simp⟩, ⟨below_alloc (Below.refl _ _) _⟩, ⟨World.iter_heap wo a0 0⟩⟩
      case round =>
        clear hcx
        obtain ⟨acc2, pos, rfl, HK, HA2, HB2, HI⟩ := hrel
        by_cases c2 : pos < a0.size
        · have hk0 : gk ≠ 0 := by have := HK.out; omega
          obtain ⟨k1, rfl⟩ : ∃ k1, gk = k1 + 1 := ⟨gk - 1, by omega⟩
          clear hk0
          obtain ⟨W2, hnx0, hI2, hoth, hsz, hos, htp, hout⟩ := iter_next (P := Tryd.prog) wr wo.heap.size a0 pos HI.out c2 (asciiB_at HC0.out.2 pos c2)
          have hB2 : Below wo.heap.size wo W2 := by
            have hb := HB2.out
            exact ⟨hos.trans hb.os, htp.trans hb.tape, hout.trans hb.output, by rw [hsz]; exact hb.size, fun k hk => (hoth k (by omega)).trans (hb.block k hk)⟩
          clear HI HB2 hoth hsz hos htp hout
          obtain ⟨p, hp⟩ : ∃ p : Int, (pos : Int) = p := ⟨_, rfl⟩
          obtain ⟨ch, hch⟩ : ∃ ch : Int, ((a0[pos]'c2).toNat : Int) = ch := ⟨_, rfl⟩
          have hnx : ∀ ty, (Instr.next (.pointer (some ⟨wo.heap.size, 0, none⟩)) true ty).run Tryd.prog wr = .ok (.tuple #[.bool true, .int .i64 p, .int .i32 ch]) W2 := fun ty => by rw [hnx0 ty, hp, hch]
          clear hnx0 hch
          have HB2 := Aside0.mk hB2
          have HI := Aside0.mk hI2
          clear hB2 hI2
          have hacc := spec_fgExchange.sz (HA2.out)
          have hAz := HAS.out
          have s1000 := HC0.out.1
          obtain ⟨q, hq⟩ : ∃ q, wrap64 (p + 1) = q := ⟨_, rfl⟩
          have hqv : q = p + 1 := by rw [← hq]; unfold wrap64; omega
          have hqw : IntKind.i64.wrap (p + 1) = q := (i64_w _).trans hq
          have k1' : (0 ≤ p) = True := eq_true (by omega)
          have k2' : (p ≤ q) = True := eq_true (by omega)
          have k3' : (q ≤ (a0.size : Int)) = True := eq_true (by omega)
          have k4' : (p < (a0.size : Int)) = True := eq_true (by omega)
          have hx := bt_at a0 p
          have n5 := spec_fgMove.fact (a := 9223372036854775807) (b := acc2.size + (a0.extract p.toNat q.toNat).size) (by simp only [ByteArray.size_extract]; omega)
          have n6 := spec_fgMove.fact (a := 9223372036854775807) (b := acc2.size + (q.toNat - p.toNat)) (by omega)
          have n7 := spec_fgMove.fact (a := 9223372036854775807) (b := acc2.size + (min q.toNat a0.size - p.toNat)) (by omega)
          have X1 := Aside0.mk (show (a0.extract p.toNat q.toNat).data.toList = [a0.data.toList.getD pos 0] from by
            rw [show p.toNat = pos by omega, show q.toNat = pos + 1 by omega]; exact spec_fgMove.one a0 pos c2)
          have XB := Aside0.mk (show bt a0 p = ((a0.data.toList.getD pos 0).toNat : Int) from by rw [← hp]; exact spec_fgExchange.btD a0 pos c2)
          have C2 := Aside0.mk c2
          clear hqv hacc hAz s1000 hp c2
          by_cases d1 : bt a0 p = 108
          · have d1b : (bt a0 p == 108) = true := beq_iff_eq.mpr d1
            have D1 := Aside0.mk d1
            clear d1
            go_wp2
            go_roundg k1
            case measure => have := HK.out; omega
            case rel => exact ⟨acc2 ++ a0.extract p.toNat q.toNat, pos + 1, rfl, ⟨by have := HK.out; omega⟩, ⟨by rw [spec_fgExchange.app, HA2.out, X1.out, spec_fgExchange.takeF a0 pos 108 C2.out, if_pos (spec_fgExchange.byte (c := 108) (XB.out.symm.trans D1.out)), List.append_assoc]⟩, HB2, HI⟩
          · have d1b : (bt a0 p == 108) = false := beq_eq_false_iff_ne.mpr d1
            have D1 := Aside0.mk d1
            clear d1
            go_wp2
            go_roundg k1
            case measure => have := HK.out; omega
            case rel => exact ⟨acc2, pos + 1, rfl, ⟨by have := HK.out; omega⟩, ⟨by rw [HA2.out, spec_fgExchange.takeF a0 pos 108 C2.out, if_neg (fun e => D1.out (XB.out.trans (spec_fgExchange.byte' e))), List.append_nil]⟩, HB2, HI⟩
        · have hnx : ∀ ty, (Instr.next (.pointer (some ⟨wo.heap.size, 0, none⟩)) true ty).run Tryd.prog wr = .ok (.tuple #[.bool false]) wr := fun ty => iter_end wr wo.heap.size a0 pos ty HI.out c2
          have HE := Aside0.mk (show acc2.data.toList = acc.data.toList ++ a0.data.toList.filter (· == 108) from by
            have hk := HK.out
            rw [HA2.out, List.take_of_length_le (by simp; omega)])
          have HC2 := Aside0.mk (show wr.heap[w.heap.size]? = some spec_fgExchange.obj from (HB2.out.block _ HSZ.out).trans HC.out)
          have HBB := Aside0.mk (HB.out.trans (HB2.out.mono (Nat.le_of_lt HSZ.out)))
          have HSZ2 := Aside0.mk (Nat.lt_of_lt_of_le HSZ.out HB2.out.size)
          clear c2
          go_wp2
          go_roundg (2)
          case measure => have := HKi.out; omega
          case rel => exact ⟨acc2, 1, rfl, by simp, ⟨rfl⟩, ⟨by rw [HE.out, HA.out]; rfl⟩, HC2, HSZ2, HBB⟩

    · -- kind 46
      have hcx := HX1.out wo HC.out
      have HWR := Aside0.mk (Below.refl wo.heap.size wo)
      go_wp2
      go_loopg [3] (a0.size) (fun kq v3 w' => ∃ (acc2 : ByteArray) (pos : Nat), v3 = .string acc2 ∧ Aside0 (kq + pos = a0.size) ∧ Aside0 (acc2.data.toList = acc.data.toList ++ (a0.data.toList.take pos).filter (· == 46)) ∧ Aside0 (Below wo.heap.size wo w') ∧ Aside0 (w'.heap[wo.heap.size]? = some (.stringIter a0 pos)))
      case atStart => exact ⟨acc, 0, rfl, ⟨rfl⟩, ⟨by simp⟩, ⟨below_alloc (Below.refl _ _) _⟩, ⟨World.iter_heap wo a0 0⟩⟩
      case round =>
        clear hcx
        obtain ⟨acc2, pos, rfl, HK, HA2, HB2, HI⟩ := hrel
        by_cases c2 : pos < a0.size
        · have hk0 : gk ≠ 0 := by have := HK.out; omega
          obtain ⟨k1, rfl⟩ : ∃ k1, gk = k1 + 1 := ⟨gk - 1, by omega⟩
          clear hk0
          obtain ⟨W2, hnx0, hI2, hoth, hsz, hos, htp, hout⟩ := iter_next (P := Tryd.prog) wr wo.heap.size a0 pos HI.out c2 (asciiB_at HC0.out.2 pos c2)
          have hB2 : Below wo.heap.size wo W2 := by
            have hb := HB2.out
            exact ⟨hos.trans hb.os, htp.trans hb.tape, hout.trans hb.output, by rw [hsz]; exact hb.size, fun k hk => (hoth k (by omega)).trans (hb.block k hk)⟩
          clear HI HB2 hoth hsz hos htp hout
          obtain ⟨p, hp⟩ : ∃ p : Int, (pos : Int) = p := ⟨_, rfl⟩
          obtain ⟨ch, hch⟩ : ∃ ch : Int, ((a0[pos]'c2).toNat : Int) = ch := ⟨_, rfl⟩
          have hnx : ∀ ty, (Instr.next (.pointer (some ⟨wo.heap.size, 0, none⟩)) true ty).run Tryd.prog wr = .ok (.tuple #[.bool true, .int .i64 p, .int .i32 ch]) W2 := fun ty => by rw [hnx0 ty, hp, hch]
          clear hnx0 hch
          have HB2 := Aside0.mk hB2
          have HI := Aside0.mk hI2
          clear hB2 hI2
          have hacc := spec_fgExchange.sz (HA2.out)
          have hAz := HAS.out
          have s1000 := HC0.out.1
          obtain ⟨q, hq⟩ : ∃ q, wrap64 (p + 1) = q := ⟨_, rfl⟩
          have hqv : q = p + 1 := by rw [← hq]; unfold wrap64; omega
          have hqw : IntKind.i64.wrap (p + 1) = q := (i64_w _).trans hq
          have k1' : (0 ≤ p) = True := eq_true (by omega)
          have k2' : (p ≤ q) = True := eq_true (by omega)
          have k3' : (q ≤ (a0.size : Int)) = True := eq_true (by omega)
          have k4' : (p < (a0.size : Int)) = True := eq_true (by omega)
          have hx := bt_at a0 p
          have n5 := spec_fgMove.fact (a := 9223372036854775807) (b := acc2.size + (a0.extract p.toNat q.toNat).size) (by simp only [ByteArray.size_extract]; omega)
          have n6 := spec_fgMove.fact (a := 9223372036854775807) (b := acc2.size + (q.toNat - p.toNat)) (by omega)
          have n7 := spec_fgMove.fact (a := 9223372036854775807) (b := acc2.size + (min q.toNat a0.size - p.toNat)) (by omega)
          have X1 := Aside0.mk (show (a0.extract p.toNat q.toNat).data.toList = [a0.data.toList.getD pos 0] from by
            rw [show p.toNat = pos by omega, show q.toNat = pos + 1 by omega]; exact spec_fgMove.one a0 pos c2)
          have XB := Aside0.mk (show bt a0 p = ((a0.data.toList.getD pos 0).toNat : Int) from by rw [← hp]; exact spec_fgExchange.btD a0 pos c2)
          have C2 := Aside0.mk c2
          clear hqv hacc hAz s1000 hp c2
          by_cases d1 : bt a0 p = 46
          · have d1b : (bt a0 p == 46) = true := beq_iff_eq.mpr d1
            have D1 := Aside0.mk d1
            clear d1
            go_wp2
            go_roundg k1
            case measure => have := HK.out; omega
            case rel => exact ⟨acc2 ++ a0.extract p.toNat q.toNat, pos + 1, rfl, ⟨by have := HK.out; omega⟩, ⟨by rw [spec_fgExchange.app, HA2.out, X1.out, spec_fgExchange.takeF a0 pos 46 C2.out, if_pos (spec_fgExchange.byte (c := 46) (XB.out.symm.trans D1.out)), List.append_assoc]⟩, HB2, HI⟩
          · have d1b : (bt a0 p == 46) = false := beq_eq_false_iff_ne.mpr d1
            have D1 := Aside0.mk d1
            clear d1
            go_wp2
            go_roundg k1
            case measure => have := HK.out; omega
            case rel => exact ⟨acc2, pos + 1, rfl, ⟨by have := HK.out; omega⟩, ⟨by rw [HA2.out, spec_fgExchange.takeF a0 pos 46 C2.out, if_neg (fun e => D1.out (XB.out.trans (spec_fgExchange.byte' e))), List.append_nil]⟩, HB2, HI⟩
        · have hnx : ∀ ty, (Instr.next (.pointer (some ⟨wo.heap.size, 0, none⟩)) true ty).run Tryd.prog wr = .ok (.tuple #[.bool false]) wr := fun ty => iter_end wr wo.heap.size a0 pos ty HI.out c2
          have HE := Aside0.mk (show acc2.data.toList = acc.data.toList ++ a0.data.toList.filter (· == 46) from by
            have hk := HK.out
            rw [HA2.out, List.take_of_length_le (by simp; omega)])
          have HC2 := Aside0.mk (show wr.heap[w.heap.size]? = some spec_fgExchange.obj from (HB2.out.block _ HSZ.out).trans HC.out)
          have HBB := Aside0.mk (HB.out.trans (HB2.out.mono (Nat.le_of_lt HSZ.out)))
          have HSZ2 := Aside0.mk (Nat.lt_of_lt_of_le HSZ.out HB2.out.size)
          clear c2
          go_wp2
          go_roundg (1)
          case measure => have := HKi.out; omega
          case rel => exact ⟨acc2, 2, rfl, by simp, ⟨rfl⟩, ⟨by rw [HE.out, HA.out]; rfl⟩, HC2, HSZ2, HBB⟩

    · -- kind 114
      have hcx := HX2.out wo HC.out
      have HWR := Aside0.mk (Below.refl wo.heap.size wo)
      go_wp2
      go_loopg [3] (a0.size) (fun kq v3 w' => ∃ (acc2 : ByteArray) (pos : Nat), v3 = .string acc2 ∧ Aside0 (kq + pos = a0.size) ∧ Aside0 (acc2.data.toList = acc.data.toList ++ (a0.data.toList.take pos).filter (· == 114)) ∧ Aside0 (Below wo.heap.size wo w') ∧ Aside0 (w'.heap[wo.heap.size]? = some (.stringIter a0 pos)))
      case atStart => exact ⟨acc, 0, rfl, ⟨rfl⟩, ⟨by simp⟩, ⟨below_alloc (Below.refl _ _) _⟩, ⟨World.iter_heap wo a0 0⟩⟩
      case round =>
        clear hcx
        obtain ⟨acc2, pos, rfl, HK, HA2, HB2, HI⟩ := hrel
        by_cases c2 : pos < a0.size
        · have hk0 : gk ≠ 0 := by have := HK.out; omega
          obtain ⟨k1, rfl⟩ : ∃ k1, gk = k1 + 1 := ⟨gk - 1, by omega⟩
          clear hk0
          obtain ⟨W2, hnx0, hI2, hoth, hsz, hos, htp, hout⟩ := iter_next (P := Tryd.prog) wr wo.heap.size a0 pos HI.out c2 (asciiB_at HC0.out.2 pos c2)
          have hB2 : Below wo.heap.size wo W2 := by
            have hb := HB2.out
            exact ⟨hos.trans hb.os, htp.trans hb.tape, hout.trans hb.output, by rw [hsz]; exact hb.size, fun k hk => (hoth k (by omega)).trans (hb.block k hk)⟩
          clear HI HB2 hoth hsz hos htp hout
          obtain ⟨p, hp⟩ : ∃ p : Int, (pos : Int) = p := ⟨_, rfl⟩
          obtain ⟨ch, hch⟩ : ∃ ch : Int, ((a0[pos]'c2).toNat : Int) = ch := ⟨_, rfl⟩
          have hnx : ∀ ty, (Instr.next (.pointer (some ⟨wo.heap.size, 0, none⟩)) true ty).run Tryd.prog wr = .ok (.tuple #[.bool true, .int .i64 p, .int .i32 ch]) W2 := fun ty => by rw [hnx0 ty, hp, hch]
          clear hnx0 hch
          have HB2 := Aside0.mk hB2
          have HI := Aside0.mk hI2
          clear hB2 hI2
          have hacc := spec_fgExchange.sz (HA2.out)
          have hAz := HAS.out
          have s1000 := HC0.out.1
          obtain ⟨q, hq⟩ : ∃ q, wrap64 (p + 1) = q := ⟨_, rfl⟩
          have hqv : q = p + 1 := by rw [← hq]; unfold wrap64; omega
          have hqw : IntKind.i64.wrap (p + 1) = q := (i64_w _).trans hq
          have k1' : (0 ≤ p) = True := eq_true (by omega)
          have k2' : (p ≤ q) = True := eq_true (by omega)
          have k3' : (q ≤ (a0.size : Int)) = True := eq_true (by omega)
          have k4' : (p < (a0.size : Int)) = True := eq_true (by omega)
          have hx := bt_at a0 p
          have n5 := spec_fgMove.fact (a := 9223372036854775807) (b := acc2.size + (a0.extract p.toNat q.toNat).size) (by simp only [ByteArray.size_extract]; omega)
          have n6 := spec_fgMove.fact (a := 9223372036854775807) (b := acc2.size + (q.toNat - p.toNat)) (by omega)
          have n7 := spec_fgMove.fact (a := 9223372036854775807) (b := acc2.size + (min q.toNat a0.size - p.toNat)) (by omega)
          have X1 := Aside0.mk (show (a0.extract p.toNat q.toNat).data.toList = [a0.data.toList.getD pos 0] from by
            rw [show p.toNat = pos by omega, show q.toNat = pos + 1 by omega]; exact spec_fgMove.one a0 pos c2)
          have XB := Aside0.mk (show bt a0 p = ((a0.data.toList.getD pos 0).toNat : Int) from by rw [← hp]; exact spec_fgExchange.btD a0 pos c2)
          have C2 := Aside0.mk c2
          clear hqv hacc hAz s1000 hp c2
          by_cases d1 : bt a0 p = 114
          · have d1b : (bt a0 p == 114) = true := beq_iff_eq.mpr d1
            have D1 := Aside0.mk d1
            clear d1
            go_wp2
            go_roundg k1
            case measure => have := HK.out; omega
            case rel => exact ⟨acc2 ++ a0.extract p.toNat q.toNat, pos + 1, rfl, ⟨by have := HK.out; omega⟩, ⟨by rw [spec_fgExchange.app, HA2.out, X1.out, spec_fgExchange.takeF a0 pos 114 C2.out, if_pos (spec_fgExchange.byte (c := 114) (XB.out.symm.trans D1.out)), List.append_assoc]⟩, HB2, HI⟩
          · have d1b : (bt a0 p == 114) = false := beq_eq_false_iff_ne.mpr d1
            have D1 := Aside0.mk d1
            clear d1
            go_wp2
            go_roundg k1
            case measure => have := HK.out; omega
            case rel => exact ⟨acc2, pos + 1, rfl, ⟨by have := HK.out; omega⟩, ⟨by rw [HA2.out, spec_fgExchange.takeF a0 pos 114 C2.out, if_neg (fun e => D1.out (XB.out.trans (spec_fgExchange.byte' e))), List.append_nil]⟩, HB2, HI⟩
        · have hnx : ∀ ty, (Instr.next (.pointer (some ⟨wo.heap.size, 0, none⟩)) true ty).run Tryd.prog wr = .ok (.tuple #[.bool false]) wr := fun ty => iter_end wr wo.heap.size a0 pos ty HI.out c2
          have HE := Aside0.mk (show acc2.data.toList = acc.data.toList ++ a0.data.toList.filter (· == 114) from by
            have hk := HK.out
            rw [HA2.out, List.take_of_length_le (by simp; omega)])
          have HC2 := Aside0.mk (show wr.heap[w.heap.size]? = some spec_fgExchange.obj from (HB2.out.block _ HSZ.out).trans HC.out)
          have HBB := Aside0.mk (HB.out.trans (HB2.out.mono (Nat.le_of_lt HSZ.out)))
          have HSZ2 := Aside0.mk (Nat.lt_of_lt_of_le HSZ.out HB2.out.size)
          clear c2
          go_wp2
          go_roundg (0)
          case measure => have := HKi.out; omega
          case rel => exact ⟨acc2, 3, rfl, by simp, ⟨rfl⟩, ⟨by rw [HE.out, HA.out]; rfl⟩, HC2, HSZ2, HBB⟩

    · have HE := Aside0.mk (show acc = r from by
        rw [← HR.out, ← HA.out])
      go_wp2
      go_ret
      exact ⟨by rw [HE.out]; rfl, HB.out⟩

/-! ### spec_CanExchange: function 18 -/
def spec_CanExchange.f (k : Nat) (a0 : ByteArray) : Option (Bool × Bool) := (spec_fgGood.f k a0).bind fun t141 => (if t141 = true then ((spec_fgReach.f k a0).bind fun bt142 => ((spec_fgExchange.f a0).bind fun t154 => ((spec_fgAt.f k bt142.1 t154).bind fun t155 => (some (decide (t155 ≥ 0), true))))) else (some (false, false)))
theorem spec_CanExchange.mono : ∀ a0 k, LeO (spec_CanExchange.f k a0) (spec_CanExchange.f (k + 1) a0) := by
  intro a0 k
  unfold spec_CanExchange.f
  repeat' first
      | (with_reducible exact spec_fgAt.mono _ _ _)
      | (with_reducible exact spec_fgGood.mono _ _)
      | (with_reducible exact spec_fgReach.mono _ _)
      | (with_reducible exact LeO.refl _)
      | (with_reducible exact LeO.none _)
      | (with_reducible refine LeO.ite ?_ ?_)
      | (with_reducible refine LeO.bind ?_ (fun _ => ?_))
      | exact spec_fgAt.mono _ _ _
      | exact spec_fgGood.mono _ _
      | exact spec_fgReach.mono _ _
      | exact LeO.none _
      | refine LeO.ite ?_ ?_
      | refine LeO.bind ?_ (fun _ => ?_)
set_option maxHeartbeats 8000000 in
set_option maxRecDepth 100000 in
theorem spec_CanExchange.calls (k : Nat) (a0 : ByteArray) (r1 : Bool) (r2 : Bool) (w : World) (h : spec_CanExchange.f k a0 = some (r1, r2)) :
    Calls Tryd.prog 18 #[.string a0] w fun e w' => e = .returned (.tuple #[.bool r1, .bool r2]) ∧ Below w.heap.size w w' := by
  have HB := Aside0.mk (Below.refl w.heap.size w)
  have H : ((spec_fgGood.f k a0).bind fun t141 => (if t141 = true then ((spec_fgReach.f k a0).bind fun bt142 => ((spec_fgExchange.f a0).bind fun t154 => ((spec_fgAt.f k bt142.1 t154).bind fun t155 => (some (decide (t155 ≥ 0), true))))) else (some (false, false)))) = some (r1, r2) := h
  clear h
  replace H := Option.bind_eq_some_iff.mp H
  obtain ⟨t141, A20, H⟩ := H
  replace H : (if t141 = true then ((spec_fgReach.f k a0).bind fun bt142 => ((spec_fgExchange.f a0).bind fun t154 => ((spec_fgAt.f k bt142.1 t154).bind fun t155 => (some (decide (t155 ≥ 0), true))))) else (some (false, false))) = some (r1, r2) := H
  have A2 := Aside0.mk A20
  clear A20
  by_cases c3 : t141 = true
  · subst c3
    have H1 : ((spec_fgReach.f k a0).bind fun bt142 => ((spec_fgExchange.f a0).bind fun t154 => ((spec_fgAt.f k bt142.1 t154).bind fun t155 => (some (decide (t155 ≥ 0), true))))) = some (r1, r2) := by rw [if_pos rfl] at H; exact H
    clear H
    have H := H1
    clear H1
    replace H := Option.bind_eq_some_iff.mp H
    obtain ⟨⟨t142, t143, t144, t145⟩, A40, H⟩ := H
    replace H : ((spec_fgExchange.f a0).bind fun t154 => ((spec_fgAt.f k t142 t154).bind fun t155 => (some (decide (t155 ≥ 0), true)))) = some (r1, r2) := H
    have A4 := Aside0.mk A40
    clear A40
    replace H := Option.bind_eq_some_iff.mp H
    obtain ⟨t154, A50, H⟩ := H
    replace H : ((spec_fgAt.f k t142 t154).bind fun t155 => (some (decide (t155 ≥ 0), true))) = some (r1, r2) := H
    have A5 := Aside0.mk A50
    clear A50
    replace H := Option.bind_eq_some_iff.mp H
    obtain ⟨t155, A60, H⟩ := H
    replace H : (some (decide (t155 ≥ 0), true)) = some (r1, r2) := H
    have A6 := Aside0.mk A60
    clear A60
    simp only [Option.some.injEq, Prod.mk.injEq] at H
    obtain ⟨rfl, rfl⟩ := H
    go_enter Tryd.func18, Tryd.ntmps18
    go_wp2_with (first | ((with_reducible refine gate_callee (f := 33) rfl ?_); refine goesL_ (some 9) rfl rfl Tryd.func33 (by kernel_rfl) rfl #[.string a0] rfl (by (try simp only [List.map_toArray, List.map_cons, List.map_nil]); first | done | rfl | (simp only [List.length_drop, List.length_take]; rfl)) ?_; (with_reducible refine (spec_fgGood.calls k a0 true _ A2.out).mono ?_); rintro e w' ⟨rfl, ⟨nd, rfl⟩⟩; refine ⟨_, rfl, ?_⟩) | ((with_reducible refine gate_callee (f := 34) rfl ?_); refine goesL_ (some 13) rfl rfl Tryd.func34 (by kernel_rfl) rfl #[.string a0] rfl (by (try simp only [List.map_toArray, List.map_cons, List.map_nil]); first | done | rfl | (simp only [List.length_drop, List.length_take]; rfl)) ?_; (with_reducible refine (spec_fgReach.calls k a0 t142 t143 t144 t145 _ A4.out).mono ?_); rintro e w7 ⟨v146, v148, v150, v152, rfl, ho0, ho1, ho2, ho3, hb⟩; refine ⟨_, rfl, ?_⟩; have n0_ := Aside0.mk (Kd.R_lower ho0 (below_size (by repeat (first | (with_reducible first | exact HB.out | apply below_alloc | apply pw_below_drewN | apply below_drew1) | exact HB.out)))); have n1_ := Aside0.mk (Kd.R_lower ho1 (below_size (by repeat (first | (with_reducible first | exact HB.out | apply below_alloc | apply pw_below_drewN | apply below_drew1) | exact HB.out)))); have n2_ := Aside0.mk (Kd.R_lower ho2 (below_size (by repeat (first | (with_reducible first | exact HB.out | apply below_alloc | apply pw_below_drewN | apply below_drew1) | exact HB.out)))); have n3_ := Aside0.mk (Kd.R_lower ho3 (below_size (by repeat (first | (with_reducible first | exact HB.out | apply below_alloc | apply pw_below_drewN | apply below_drew1) | exact HB.out)))); have n4_ := Aside0.mk (below_step (by repeat (first | (with_reducible first | exact HB.out | apply below_alloc | apply pw_below_drewN | apply below_drew1) | exact HB.out)) hb); clear HB; have HO147 := n0_; have HO149 := n1_; have HO151 := n2_; have HO153 := n3_; have HB := n4_; clear n0_ n1_ n2_ n3_ n4_; (try clear hb); (try clear hb2); (try clear hk); (try clear hi); (try clear ho0); (try clear ho1); (try clear ho2); (try clear ho3)) | ((with_reducible refine gate_callee (f := 44) rfl ?_); refine goesL_ (some 20) rfl rfl Tryd.func44 (by kernel_rfl) rfl #[.string a0] rfl (by (try simp only [List.map_toArray, List.map_cons, List.map_nil]); first | done | rfl | (simp only [List.length_drop, List.length_take]; rfl)) ?_; (with_reducible refine (spec_fgExchange.calls a0 t154 _ A5.out).mono ?_); rintro e w8 ⟨rfl, hb⟩; refine ⟨_, rfl, ?_⟩; have n0_ := Aside0.mk (Kd.R_below (by (with_reducible repeat (first | apply Kd.R_alloc | apply Kd.R_drewN | apply Kd.R_drew)); exact HO147.out) hb); have n1_ := Aside0.mk (Kd.R_below (by (with_reducible repeat (first | apply Kd.R_alloc | apply Kd.R_drewN | apply Kd.R_drew)); exact HO149.out) hb); have n2_ := Aside0.mk (Kd.R_below (by (with_reducible repeat (first | apply Kd.R_alloc | apply Kd.R_drewN | apply Kd.R_drew)); exact HO151.out) hb); have n3_ := Aside0.mk (Kd.R_below (by (with_reducible repeat (first | apply Kd.R_alloc | apply Kd.R_drewN | apply Kd.R_drew)); exact HO153.out) hb); have n4_ := Aside0.mk (below_step (by repeat (first | (with_reducible first | exact HB.out | apply below_alloc | apply pw_below_drewN | apply below_drew1) | exact HB.out)) hb); clear HO147; clear HO149; clear HO151; clear HO153; clear HB; have HO147 := n0_; have HO149 := n1_; have HO151 := n2_; have HO153 := n3_; have HB := n4_; clear n0_ n1_ n2_ n3_ n4_; (try clear hb); (try clear hb2); (try clear hk); (try clear hi); obtain ⟨Ao9, co9, eo9⟩ := Kd.R_slice HO147.out; subst eo9) | ((with_reducible refine gate_callee (f := 43) rfl ?_); refine goesL_ (some 21) rfl rfl Tryd.func43 (by kernel_rfl) rfl #[.slice Ao9 t142.length co9, .string t154] rfl (by (try simp only [List.map_toArray, List.map_cons, List.map_nil]); first | done | rfl | (simp only [List.length_drop, List.length_take]; rfl)) ?_; (with_reducible refine (spec_fgAt.calls k _ _ t142 t154 t155 _ ?side1 ?side2 A6.out).mono ?_); (case side1 => repeat (first | exact (Kd.R_reads' HO147.out).2.2 | (with_reducible refine Kd.C_alloc ?_ _) | (with_reducible refine Kd.C_drewN ?_ _) | (with_reducible refine Kd.C_drew ?_))); (case side2 => exact (Kd.R_reads' HO147.out).2.1); rintro e w' ⟨rfl, ⟨nd, rfl⟩⟩; refine ⟨_, rfl, ?_⟩))
    go_ret2
    exact ⟨by first | rfl | (simp [errW_none, errW_some] <;> rfl) | (simp [*, errW_none, errW_some] <;> rfl), by repeat (first | (with_reducible first | exact HB.out | apply below_alloc | apply pw_below_drewN | apply below_drew1) | exact HB.out)⟩
  · replace c3 := Bool.eq_false_iff.mpr c3
    subst c3
    have H1 : (some (false, false)) = some (r1, r2) := by rw [if_neg (show ¬ (false = true) by decide)] at H; exact H
    clear H
    have H := H1
    clear H1
    simp only [Option.some.injEq, Prod.mk.injEq] at H
    obtain ⟨rfl, rfl⟩ := H
    go_enter Tryd.func18, Tryd.ntmps18
    go_wp2_with (first | ((with_reducible refine gate_callee (f := 33) rfl ?_); refine goesL_ (some 9) rfl rfl Tryd.func33 (by kernel_rfl) rfl #[.string a0] rfl (by (try simp only [List.map_toArray, List.map_cons, List.map_nil]); first | done | rfl | (simp only [List.length_drop, List.length_take]; rfl)) ?_; (with_reducible refine (spec_fgGood.calls k a0 false _ A2.out).mono ?_); rintro e w' ⟨rfl, ⟨nd, rfl⟩⟩; refine ⟨_, rfl, ?_⟩))
    go_ret2
    exact ⟨by first | rfl | (simp [errW_none, errW_some] <;> rfl) | (simp [*, errW_none, errW_some] <;> rfl), by repeat (first | (with_reducible first | exact HB.out | apply below_alloc | apply pw_below_drewN | apply below_drew1) | exact HB.out)⟩

/-! ### impl_within: function 59 -/
def impl_within.f (a0 : Int) (a1 : Int) (a2 : Int) : Option (Bool) := if a1 ≤ a0 then (some (decide (a0 ≤ a2))) else (some false)
set_option maxHeartbeats 8000000 in
set_option maxRecDepth 100000 in
theorem impl_within.calls (a0 : Int) (a1 : Int) (a2 : Int) (r : Bool) (w : World) (h : impl_within.f a0 a1 a2 = some r) :
    Calls Tryd.prog 59 #[.int .i64 a0, .int .i64 a1, .int .i64 a2] w fun e w' => e = .returned (.bool r) ∧ Drawn0 w w' := by
  have H : (if a1 ≤ a0 then (some (decide (a0 ≤ a2))) else (some false)) = some r := h
  clear h
  by_cases c4 : a1 ≤ a0
  · rw [if_pos c4] at H
    have c4b0 : decide (a1 ≤ a0) = true := decide_eq_true c4
    clear c4
    obtain rfl := Option.some.inj H
    go_enter Tryd.func59, Tryd.ntmps59
    go_wp2
    go_ret
    exact ⟨by first | rfl | (simp; done) | (simp [*]; done), by repeat (first | exact Drawn0.refl _ | apply Drawn0.step)⟩
  · rw [if_neg c4] at H
    have c4b0 : decide (a1 ≤ a0) = false := decide_eq_false c4
    clear c4
    obtain rfl := Option.some.inj H
    go_enter Tryd.func59, Tryd.ntmps59
    go_wp2
    go_ret
    exact ⟨by first | rfl | (simp; done) | (simp [*]; done), by repeat (first | exact Drawn0.refl _ | apply Drawn0.step)⟩

/-! ### strings_Trim: function 60 -/
def strings_Trim.ok (cs : ByteArray) : Bool := cs.data.toList.all fun b => decide (b.toNat < 128)
def strings_Trim.f (a0 : ByteArray) (a1 : ByteArray) : Option (ByteArray) := if a0.size ≤ 9223372036854775807 ∧ a1.size < 4294967281 ∧ strings_Trim.ok a1 = true then (some ⟨(Lib.trimS a0.data.toList a1.data.toList).toArray⟩) else none
theorem strings_Trim.calls (a0 : ByteArray) (a1 : ByteArray) (r : ByteArray) (w : World) (h : strings_Trim.f a0 a1 = some r) :
    Calls Tryd.prog 60 #[.string a0, .string a1] w fun e w' => e = .returned (.string r) ∧ Below w.heap.size w w' := by
  unfold strings_Trim.f at h
  by_cases c : a0.size ≤ 9223372036854775807 ∧ a1.size < 4294967281 ∧ strings_Trim.ok a1 = true
  · rw [if_pos c] at h
    obtain rfl := Option.some.inj h
    obtain ⟨h0, h1, h2⟩ := c
    have hcon := Any.strings_Trim_laid Tryd.lays160 (by kernel_rfl) a0 a1 w h0 h1 (fun j b hb => by
      have h3 := List.all_eq_true.mp h2 b (List.mem_of_getElem? hb)
      exact of_decide_eq_true h3)
    exact hcon
  · rw [if_neg c] at h
    cases h


/-! ### impl_IsPond: function 36 -/
def impl_IsPond.f (a0 : ByteArray) : Option (Bool) := (impl_within.f (a0.size : Int) 1 9).bind fun t156 => (if t156 = true then ((strings_Trim.f a0 (⟨#[114, 108, 46]⟩ : ByteArray)).bind fun t157 => (some (t157.toList == ([] : List UInt8)))) else (some false))
set_option maxHeartbeats 8000000 in
set_option maxRecDepth 100000 in
theorem impl_IsPond.calls (a0 : ByteArray) (r : Bool) (w : World) (h : impl_IsPond.f a0 = some r) :
    Calls Tryd.prog 36 #[.string a0] w fun e w' => e = .returned (.bool r) ∧ Below w.heap.size w w' := by
  have HB := Aside0.mk (Below.refl w.heap.size w)
  have H : ((impl_within.f (a0.size : Int) 1 9).bind fun t156 => (if t156 = true then ((strings_Trim.f a0 (⟨#[114, 108, 46]⟩ : ByteArray)).bind fun t157 => (some (t157.toList == ([] : List UInt8)))) else (some false))) = some r := h
  clear h
  replace H := Option.bind_eq_some_iff.mp H
  obtain ⟨t156, A20, H⟩ := H
  replace H : (if t156 = true then ((strings_Trim.f a0 (⟨#[114, 108, 46]⟩ : ByteArray)).bind fun t157 => (some (t157.toList == ([] : List UInt8)))) else (some false)) = some r := H
  have A2 := Aside0.mk A20
  clear A20
  by_cases c3 : t156 = true
  · subst c3
    have H1 : ((strings_Trim.f a0 (⟨#[114, 108, 46]⟩ : ByteArray)).bind fun t157 => (some (t157.toList == ([] : List UInt8)))) = some r := by rw [if_pos rfl] at H; exact H
    clear H
    have H := H1
    clear H1
    replace H := Option.bind_eq_some_iff.mp H
    obtain ⟨t157, A40, H⟩ := H
    replace H : (some (t157.toList == ([] : List UInt8))) = some r := H
    have A4 := Aside0.mk A40
    clear A40
    obtain rfl := Option.some.inj H
    go_enter Tryd.func36, Tryd.ntmps36
    go_wp2_with (first | ((with_reducible refine gate_callee (f := 59) rfl ?_); refine goesL_ (some 5) rfl rfl Tryd.func59 (by kernel_rfl) rfl #[.int .i64 (a0.size : Int), .int .i64 1, .int .i64 9] rfl (by (try simp only [List.map_toArray, List.map_cons, List.map_nil]); first | done | rfl | (simp only [List.length_drop, List.length_take]; rfl)) ?_; (with_reducible refine (impl_within.calls (a0.size : Int) 1 9 true _ A2.out).mono ?_); rintro e w' ⟨rfl, ⟨nd, rfl⟩⟩; refine ⟨_, rfl, ?_⟩) | (go_at_call 60; (with_reducible refine (strings_Trim.calls a0 (⟨#[114, 108, 46]⟩ : ByteArray) t157 _ A4.out).mono ?_); rintro e w5 ⟨rfl, hb⟩; have n0_ := Aside0.mk (below_step (by repeat (first | (with_reducible first | exact HB.out | apply below_alloc | apply pw_below_drewN | apply below_drew1) | exact HB.out)) hb); clear HB; have HB := n0_; clear n0_; (try clear hb); (try clear hb2); (try clear hk); (try clear hi)))
    go_ret
    exact ⟨by first | rfl | (simp [errW_none, errW_some] <;> rfl) | (simp [*, errW_none, errW_some] <;> rfl), by repeat (first | (with_reducible first | exact HB.out | apply below_alloc | apply pw_below_drewN | apply below_drew1) | exact HB.out)⟩
  · replace c3 := Bool.eq_false_iff.mpr c3
    subst c3
    have H1 : (some false) = some r := by rw [if_neg (show ¬ (false = true) by decide)] at H; exact H
    clear H
    have H := H1
    clear H1
    obtain rfl := Option.some.inj H
    go_enter Tryd.func36, Tryd.ntmps36
    go_wp2_with (first | ((with_reducible refine gate_callee (f := 59) rfl ?_); refine goesL_ (some 5) rfl rfl Tryd.func59 (by kernel_rfl) rfl #[.int .i64 (a0.size : Int), .int .i64 1, .int .i64 9] rfl (by (try simp only [List.map_toArray, List.map_cons, List.map_nil]); first | done | rfl | (simp only [List.length_drop, List.length_take]; rfl)) ?_; (with_reducible refine (impl_within.calls (a0.size : Int) 1 9 false _ A2.out).mono ?_); rintro e w' ⟨rfl, ⟨nd, rfl⟩⟩; refine ⟨_, rfl, ?_⟩))
    go_ret
    exact ⟨by first | rfl | (simp [errW_none, errW_some] <;> rfl) | (simp [*, errW_none, errW_some] <;> rfl), by repeat (first | (with_reducible first | exact HB.out | apply below_alloc | apply pw_below_drewN | apply below_drew1) | exact HB.out)⟩

/-! ### impl_exchanged: function 46 -/
theorem impl_exchanged.extra : Builder.Extra Tryd.prog Tryd.lays105_ren where
  sizeBuilder := by kernel_rfl
  liesBuilder := by kernel_rfl
  t5 := Tryd.underlying5
  a5 := Tryd.isAgg5
  z5 := Tryd.sizeOf5
  v5 := Tryd.zeroValue5
  infoByte := by kernel_rfl
  cellsByte := by kernel_rfl
  sizeByte := by kernel_rfl
  neB5 := by decide
def impl_exchanged.B (c : UInt8) (n : Nat) : ByteArray := ⟨(List.replicate n c).toArray⟩
theorem impl_exchanged.Bsize (c : UInt8) (n : Nat) : (impl_exchanged.B c n).size = n := by
  show (List.replicate n c).toArray.size = n
  simp
theorem impl_exchanged.repL (c : UInt8) (n : Nat) : Lib.repeatL [c] n = List.replicate n c := by
  induction n with
  | zero => rfl
  | succ n ih => simp [Lib.repeatL, ih, List.replicate_succ]
theorem impl_exchanged.two (l : List UInt8) : l.count 108 + l.count 114 ≤ l.length := by
  induction l with
  | nil => simp
  | cons a l ih =>
    simp only [List.count_cons, List.length_cons]
    by_cases h1 : a = 108
    · subst h1; simp; omega
    · by_cases h2 : a = 114
      · subst h2; simp; omega
      · simp [h1, h2]; omega
theorem impl_exchanged.rep (c : UInt8) (n : Nat) (r : ByteArray) (hr : impl_exchanged.B c n = r) (hn : n ≤ 1000) (w : World) :
    Calls Tryd.prog 69 #[.string ⟨#[c]⟩, .int .i64 (n : Int)] w fun e w' => e = .returned (.string r) ∧ Below w.heap.size w w' := by
  have h := Any.strings_Repeat Tryd.lays105 impl_exchanged.extra ⟨#[c]⟩ n w (by omega) (by show 1 * n ≤ _; omega)
  have e : (⟨(Lib.repeatL (⟨#[c]⟩ : ByteArray).data.toList n).toArray⟩ : ByteArray) = r := by
    rw [← hr]; unfold impl_exchanged.B
    rw [show (⟨#[c]⟩ : ByteArray).data.toList = [c] from rfl, impl_exchanged.repL]
  rw [e] at h
  exact h
set_option maxHeartbeats 1000000 in
set_option maxRecDepth 100000 in
theorem impl_exchanged.count (s : ByteArray) (c : UInt8) (n : Nat) (hn : s.data.toList.count c = n) (w : World) :
    Calls Tryd.prog 68 #[.string s, .string ⟨#[c]⟩] w fun e w' => e = .returned (.int .i64 (n : Int)) ∧ Drawn0 w w' := by
  have hN := Aside0.mk hn
  clear hn
  go_enter Tryd.func68, Tryd.ntmps68
  go_wp2
  rw [run_callFunc_extern Tryd.func91 (by kernel_rfl) (by kernel_rfl) (by kernel_rfl) (e := Extern.BytealgCount.count) (by kernel_rfl), Lib.run_countString]
  simp only [Result.andThen]
  rw [Oper.upon_value]
  go_wp2
  go_ret
  exact ⟨by rw [← hN.out]; rfl, ⟨0, rfl⟩⟩
def impl_exchanged.f (a0 : ByteArray) : Option (ByteArray) := if a0.size ≤ 1000 then some (impl_exchanged.B 108 (a0.data.toList.count 108) ++ impl_exchanged.B 46 (a0.size - a0.data.toList.count 108 - a0.data.toList.count 114) ++ impl_exchanged.B 114 (a0.data.toList.count 114)) else none
set_option maxHeartbeats 8000000 in
set_option maxRecDepth 100000 in
theorem impl_exchanged.calls (a0 : ByteArray) (r : ByteArray) (w : World) (h : impl_exchanged.f a0 = some r) :
    Calls Tryd.prog 46 #[.string a0] w fun e w' => e = .returned (.string r) ∧ Below w.heap.size w w' := by
  unfold impl_exchanged.f at h
  by_cases c : a0.size ≤ 1000
  case neg => rw [if_neg c] at h; cases h
  rw [if_pos c] at h
  have h2 := impl_exchanged.two a0.data.toList
  have h3 : a0.data.toList.length = a0.size := by simp
  obtain ⟨l, hl⟩ : ∃ l, a0.data.toList.count 108 = l := ⟨_, rfl⟩
  obtain ⟨q, hq⟩ : ∃ q, a0.data.toList.count 114 = q := ⟨_, rfl⟩
  rw [hl, hq] at h h2
  obtain ⟨m, hm⟩ : ∃ m, a0.size - l - q = m := ⟨_, rfl⟩
  rw [hm] at h
  obtain ⟨r1, h1⟩ : ∃ r1, impl_exchanged.B 108 l = r1 := ⟨_, rfl⟩
  obtain ⟨r2, h4⟩ : ∃ r2, impl_exchanged.B 46 m = r2 := ⟨_, rfl⟩
  obtain ⟨r3, h5⟩ : ∃ r3, impl_exchanged.B 114 q = r3 := ⟨_, rfl⟩
  rw [h1, h4, h5] at h
  have s1 : r1.size = l := by rw [← h1, impl_exchanged.Bsize]
  have s2 : r2.size = m := by rw [← h4, impl_exchanged.Bsize]
  have s3 : r3.size = q := by rw [← h5, impl_exchanged.Bsize]
  have HR := Aside0.mk (Option.some.inj h)
  obtain ⟨d, hd⟩ : ∃ d, wrap64 ((a0.size : Int) - (l : Int)) = d := ⟨_, rfl⟩
  have hdv : d = (a0.size : Int) - l := by rw [← hd]; unfold wrap64; omega
  have hd2 : wrap64 (d - (q : Int)) = (m : Int) := by rw [hdv]; unfold wrap64; omega
  have hdw : IntKind.i64.wrap ((a0.size : Int) - (l : Int)) = d := (i64_w _).trans hd
  have hdw2 : IntKind.i64.wrap (d - (q : Int)) = (m : Int) := (i64_w _).trans hd2
  have f1 : (9223372036854775807 < r1.size + r2.size) = False := eq_false (by omega)
  have f2 : (9223372036854775807 < (r1 ++ r2).size + r3.size) = False := eq_false (by simp only [ByteArray.size_append]; omega)
  have f3 : (9223372036854775807 < r1.size + r2.size + r3.size) = False := eq_false (by omega)
  have CL := Aside0.mk (impl_exchanged.count a0 108 l hl)
  have CR := Aside0.mk (impl_exchanged.count a0 114 q hq)
  have R1 := Aside0.mk (impl_exchanged.rep 108 l r1 h1 (by omega))
  have R2 := Aside0.mk (impl_exchanged.rep 46 m r2 h4 (by omega))
  have R3 := Aside0.mk (impl_exchanged.rep 114 q r3 h5 (by omega))
  have HB := Aside0.mk (Below.refl w.heap.size w)
  clear h h1 h2 h3 h4 h5 hl hq hm s1 s2 s3 hdv c
  go_enter Tryd.func46, Tryd.ntmps46
  go_wp2_with (first | (go_at_call 68; first | ((with_reducible refine (CL.out _).mono ?_); rintro e w' ⟨rfl, ⟨nd, rfl⟩⟩) | ((with_reducible refine (CR.out _).mono ?_); rintro e w' ⟨rfl, ⟨nd, rfl⟩⟩)) | (go_at_call 69; first | ((with_reducible refine (R1.out _).mono ?_); rintro e w' ⟨rfl, hb⟩; have n1_ := Aside0.mk (below_step (by repeat (first | (with_reducible first | exact HB.out | apply below_alloc | apply pw_below_drewN | apply below_drew1) | exact HB.out)) hb); clear HB hb; have HB := n1_; clear n1_) | ((with_reducible refine (R2.out _).mono ?_); rintro e w' ⟨rfl, hb⟩; have n1_ := Aside0.mk (below_step (by repeat (first | (with_reducible first | exact HB.out | apply below_alloc | apply pw_below_drewN | apply below_drew1) | exact HB.out)) hb); clear HB hb; have HB := n1_; clear n1_) | ((with_reducible refine (R3.out _).mono ?_); rintro e w' ⟨rfl, hb⟩; have n1_ := Aside0.mk (below_step (by repeat (first | (with_reducible first | exact HB.out | apply below_alloc | apply pw_below_drewN | apply below_drew1) | exact HB.out)) hb); clear HB hb; have HB := n1_; clear n1_)))
  go_ret
  exact ⟨by rw [← HR.out]; rfl, by repeat (first | (with_reducible first | exact HB.out | apply below_alloc | apply pw_below_drewN | apply below_drew1) | exact HB.out)⟩

end Go.Proofs.YtkikpfeipejnlaaDoor.PFnExactCanExchange
