-- Printed by this session's eprint.py over the kit's print (with this session's own texts for some functions)
import Derived.Test.YtlcgimeebhoefaaDoorPFnExactIdleStonesx0
import Derived.Test.YtlcgimeebhoefaaDoorPFnExactIdleStonesx1
import Derived.Test.YtlcgimeebhoefaaDoorPFnExactIdleStonesx3
import Derived.Test.YtlcgimeebhoefaaDoorPFnExactIdleStonesx4
namespace Go.Proofs.YtlcgimeebhoefaaDoor.PFnExactIdleStones
open Go.RowKit Go.Proofs.YtlcgimeebhoefaaDoorW.PrintWords Go.Proofs.YtlcgimeebhoefaaDoorW.PrintLast Go.Proofs.YtlcgimeebhoefaaDoorW.PrintMore
attribute [local go_sem] max2_int min2_int max_two min_two max_three min_three max_four min_four   -- for this text's walks alone
set_option linter.unusedVariables false
set_option linter.unusedSimpArgs false

/-! ### impl_mirrored: function 45 -/
def impl_mirrored.f (a0 : ByteArray) : Option (ByteArray) := if a0.size ≤ 1000 then (some ⟨a0.data.toList.reverse.toArray⟩) else none
def impl_mirrored.enc (b : UInt8) : Value := .int .u8 (b.toNat : Int)
theorem impl_mirrored.belowBytes (w : World) (e : TypeId) (s : ByteArray) : Below w.heap.size w (Lib.bytesWorld w e s) :=
  ⟨rfl, rfl, rfl, by rw [Lib.bytesWorld_size]; omega, fun k hk => Lib.bytesWorld_at_old w e s k hk⟩
theorem impl_mirrored.holds (w : World) (e : TypeId) (s : ByteArray) : Go.Sort.Holds impl_mirrored.enc (Lib.bytesWorld w e s) w.heap.size 0 s.data.toList.toArray := by
  intro j hj
  have hj2 : j < s.size := by simpa using hj
  constructor
  · rw [Nat.zero_add, Lib.bytesWorld_cell w e s j hj2]
    unfold impl_mirrored.enc
    rw [getElem!_pos _ j hj, List.getD_eq_getElem?_getD, List.getElem?_eq_getElem (by simpa using hj2)]
    simp
  · have hsz : s.size ≤ (Lib.bytesCells w e s).size := by simp [Lib.bytesCells]
    unfold World.frozen?
    simp only [Lib.bytesWorld_at_new]
    simp
    omega
theorem impl_mirrored.rev (s : ByteArray) (cap : Nat) (w : World) (hs : s.size ≤ 1000) :
    Calls Tryd.prog 58 #[.slice (some ⟨w.heap.size, 0, none⟩) s.size cap] (Lib.bytesWorld w 5 s) fun e w' => e = .returned (.tuple #[]) ∧ (∀ j (hj : j < s.data.toList.reverse.length), w'.cell? ((⟨w.heap.size, 0, none⟩ : Addr).add j) = some (.int .u8 ((s.data.toList.reverse[j]'hj).toNat : Int))) ∧ Below w.heap.size w w' := by
  have hH := impl_mirrored.holds w 5 s
  have hl : s.data.toList.length = s.size := by simp
  have c := AnyE.slices_Reverse Tryd.laysRev impl_mirrored.enc (fun _ => rfl) w.heap.size 0 cap s.data.toList (Lib.bytesWorld w 5 s) hH (by omega)
  rw [hl] at c
  refine c.mono fun e w' ⟨he, n, hw⟩ => ⟨he, fun j hj => ?_, ?_⟩
  · have hj2 : j < s.size := by simpa using hj
    have hadd : (⟨w.heap.size, 0, none⟩ : Addr).add j = ⟨w.heap.size, 0 + j, none⟩ := by unfold Addr.add; split <;> simp_all
    have hH2 : Go.Sort.Holds impl_mirrored.enc (Go.Sort.ahead (Lib.bytesWorld w 5 s) n) w.heap.size 0 s.data.toList.toArray := hH
    rw [hadd, hw, Go.Sort.cell?_putRow impl_mirrored.enc _ _ _ s.data.toList.toArray _ hH2 (by simp) j (by simpa using hj2)]
    unfold impl_mirrored.enc
    rw [getElem!_pos _ j (by simpa using hj2)]
    simp
  · subst hw
    refine ⟨rfl, rfl, rfl, ?_, fun k hk => ?_⟩
    · rw [Go.Sort.size_putRow]
      show w.heap.size ≤ (Lib.bytesWorld w 5 s).heap.size
      rw [Lib.bytesWorld_size]; omega
    · have hne : w.heap.size ≠ k := by omega
      have h1 : (Lib.bytesWorld w 5 s).heap[k]? = w.heap[k]? := Lib.bytesWorld_at_old w _ s k hk
      rw [← h1]
      simp [Go.Sort.putRow, Go.Sort.mapBlock, Go.Sort.ahead, Array.getElem?_modify, hne]
set_option maxHeartbeats 8000000 in
set_option maxRecDepth 100000 in
theorem impl_mirrored.calls (a0 : ByteArray) (r : ByteArray) (w : World) (h : impl_mirrored.f a0 = some r) :
    Calls Tryd.prog 45 #[.string a0] w fun e w' => e = .returned (.string r) ∧ Below w.heap.size w w' := by
  unfold impl_mirrored.f at h
  by_cases c : a0.size ≤ 1000
  · rw [if_pos c] at h
    have hr := Aside0.mk (Option.some.inj h)
    clear h
    have hconv := Lib.run_convert_string_bytes (P := Tryd.prog) w 9 51 5 a0 Tryd.underlying9 Tryd.underlying51 Tryd.underlying5
    have hrev := Aside0.mk (impl_mirrored.rev a0 (grownCap w a0.size 0 5) w c)
    go_enter Tryd.func45, Tryd.ntmps45
    go_wp2_with fail
    refine hrev.out.mono ?_
    rintro e w' ⟨rfl, hcells, hb⟩
    have hback := run_convert_bytes_back w' 51 9 5 ⟨w.heap.size, 0, none⟩ (grownCap w a0.size 0 5) a0.data.toList.reverse Tryd.underlying51 Tryd.underlying5 Tryd.underlying9 hcells
    rw [show a0.data.toList.reverse.length = a0.size by simp, hr.out] at hback
    clear hconv hcells
    go_wp2
    go_ret
    exact ⟨rfl, hb⟩
  · rw [if_neg c] at h
    cases h


/-! ### impl_IdleStones: function 26 -/
--USES helper_region
/-- The stones for which something holds. -/
def impl_IdleStones.go (n : Int) (p : Int → Option Bool) : List Int → List Int → Option (List Int)
  | [], acc => some acc
  | x :: l, acc => if 1 ≤ x ∧ x ≤ n then (p x).bind fun b => impl_IdleStones.go n p l (if b = true then acc ++ [x] else acc) else impl_IdleStones.go n p l acc
def impl_IdleStones.st (k : Nat) (a0 : ByteArray) (p : Int → Option Bool) : Option (List Int) := (impl_stand.f k a0).bind fun l => if 1 ≤ l.length ∧ l.length ≤ 1000 then impl_IdleStones.go (a0.size : Int) p l [] else none
theorem impl_IdleStones.go_le {n : Int} {p q : Int → Option Bool} (h : ∀ x, LeO (p x) (q x)) : ∀ (l acc : List Int), LeO (impl_IdleStones.go n p l acc) (impl_IdleStones.go n q l acc)
  | [], acc => LeO.refl _
  | x :: l, acc => by
    simp only [impl_IdleStones.go]
    exact LeO.ite (LeO.bind (h x) (fun b => impl_IdleStones.go_le h l _)) (impl_IdleStones.go_le h l acc)
theorem impl_IdleStones.st_le {k : Nat} {a0 : ByteArray} {p q : Int → Option Bool} (h : ∀ x, LeO (p x) (q x)) : LeO (impl_IdleStones.st k a0 p) (impl_IdleStones.st (k + 1) a0 q) :=
  LeO.bind (impl_stand.mono a0 k) (fun l => LeO.ite (impl_IdleStones.go_le h l []) (LeO.refl _))
theorem impl_IdleStones.standF (k : Nat) (a0 : ByteArray) (l : List Int) (W : World) (h : impl_stand.f k a0 = some l) (h1 : 1 ≤ l.length) :
    Calls Tryd.prog 54 #[.string a0] W fun e w' => ∃ g cap, e = .returned (.slice (some ⟨g, 0, none⟩) l.length cap) ∧ W.heap.size ≤ g ∧ Kd.R (Kd.int .i64) 3 w' W.heap.size (fun _ => True) (.slice (some ⟨g, 0, none⟩) l.length cap) l ∧ Below W.heap.size W w' := by
  refine (impl_stand.calls k a0 l W h).mono ?_
  rintro e w' ⟨v, rfl, ho, hb⟩
  obtain ⟨g, cap', hv, hg1, hg2, _⟩ := Kd.R_form ho (by omega)
  subst hv
  exact ⟨g, cap', rfl, hg1, ho, hb⟩
set_option maxHeartbeats 8000000 in
set_option maxRecDepth 100000 in
theorem impl_IdleStones.stones (k : Nat) (a0 : ByteArray) (b1 b2 b3 : Nat) (p : Int → Option Bool) (r : List Int) (w : World) (hp : ∀ (x : Int) (b : Bool) (W : World), 1 ≤ x → x ≤ (a0.size : Int) → p x = some b → Below w.heap.size w W → Calls Tryd.prog 46 #[.int .i64 x, .pointer (some ⟨b1, 0, none⟩), .pointer (some ⟨b2, 0, none⟩), .pointer (some ⟨b3, 0, none⟩)] W fun e W' => e = .returned (.bool b) ∧ Below W.heap.size W W')
    (h : impl_IdleStones.st k a0 p = some r) :
    Calls Tryd.prog 41 #[.string a0, .func (.func 46) #[] #[.pointer (some ⟨b1, 0, none⟩), .pointer (some ⟨b2, 0, none⟩), .pointer (some ⟨b3, 0, none⟩)]] w fun e w' => ∃ v0_, e = .returned v0_ ∧ Kd.R (Kd.int .i64) 3 w' w.heap.size (fun _ => True) v0_ r ∧ Below w.heap.size w w' := by
  obtain ⟨l, hl, h⟩ := Option.bind_eq_some_iff.mp h
  by_cases c : 1 ≤ l.length ∧ l.length ≤ 1000
  case neg => rw [if_neg c] at h; cases h
  rw [if_pos c] at h
  have HH := Aside0.mk h
  have HL := Aside0.mk hl
  have HC := Aside0.mk c
  have HP := Aside0.mk hp
  have HB := Aside0.mk (Below.refl w.heap.size w)
  clear h hl c hp
  go_enter Tryd.func41, Tryd.ntmps41
  go_wp2_with (first | ((with_reducible refine gate_dst (N := 8) rfl ?_); refine Kd.R_lit (Kd.int .i64) _ 3 ?hg (N := 8) ?hd (xs := ([] : List Int)) (inner := []) (ok := fun _ => True) (okp := fun _ => True) ?hr ?hp (fun _ hk => hk) trivial (Below.refl _ _) (Nat.le_refl _) (by simp) ?_; (case hd => rfl); (case hg => rfl); (case hr => first | (go_simp; done) | (go_simp; rfl)); (case hp => exact (Reps.none _ _)); intro v8 w4 ho5 hb hg_ hnew_; clear hg_ hnew_; have n0_ := Aside0.mk (Kd.R_lower ho5 (below_size HB.out)); have n1_ := Aside0.mk (below_step HB.out hb); clear HB; have HO := n0_; have HB := n1_; clear n0_ n1_; clear hb ho5) | (go_at_call 54; (refine (impl_IdleStones.standF k a0 l _ HL.out HC.out.1).mono ?_); rintro e w6 ⟨g, cap, rfl, hg, ho, hb⟩; have n0_ := Aside0.mk (Kd.R_mono (ok' := fun k => k ≠ g) (Kd.R_below (Kd.R_bound HO.out) hb) (fun k hk => by have := hk.2.2.1; omega)); have n1_ := Aside0.mk (Kd.R_mono (ok' := fun k => k = g) (Kd.R_tight rfl (Kd.R_lower ho (below_size HB.out))) (fun k hk => by simpa [Value.ownBlock] using hk)); have n2_ := Aside0.mk (below_step HB.out hb); have HG := Aside0.mk (show w.heap.size ≤ g from Nat.le_trans (below_size HB.out) hg); clear HO HB hb ho hg; have HO := n0_; have HLR := n1_; have HB := n2_; clear n0_ n1_ n2_))
  go_loopg [5, 12] l.length (fun kq v5 v12 w' => ∃ (pre rest acc : List Int), v12 = .int .i64 (pre.length : Int) ∧ Aside0 (l = pre ++ rest ∧ rest.length ≤ kq ∧ acc.length ≤ pre.length) ∧ Aside0 (impl_IdleStones.go (a0.size : Int) p rest acc = some r) ∧ Aside0 (Kd.R (Kd.int .i64) 3 w' w.heap.size (fun k => k ≠ g) v5 acc) ∧ Aside0 (Kd.R (Kd.int .i64) 3 w' w.heap.size (fun k => k = g) (.slice (some ⟨g, 0, none⟩) l.length cap) l) ∧ Aside0 (Below w.heap.size w w'))
  case atStart => exact ⟨[], l, [], rfl, ⟨rfl, Nat.le_refl _, by simp⟩, HH, ⟨by (with_reducible repeat (first | apply Kd.R_alloc | apply Kd.R_drewN | apply Kd.R_drew)); exact HO.out⟩, ⟨by (with_reducible repeat (first | apply Kd.R_alloc | apply Kd.R_drewN | apply Kd.R_drew)); exact HLR.out⟩, ⟨by repeat (first | exact HB.out | apply below_alloc | apply pw_below_drewN | apply below_drew1)⟩⟩
  case round =>
    clear HH HO HLR HB
    obtain ⟨pre, rest, acc, rfl, HX, HH, HO, HLR, HB⟩ := hrel
    cases rest with
    | nil =>
      have hlen : l.length = pre.length := by have := HX.out.1; rw [this]; simp
      have d1 : decide ((pre.length : Int) < (l.length : Int)) = false := decide_eq_false (by omega)
      have hr := HH.out
      simp only [impl_IdleStones.go, Option.some.injEq] at hr
      subst hr
      go_wp2
      go_ret
      exact ⟨_, rfl, Kd.R_mono HO.out (fun _ _ => trivial), HB.out⟩
    | cons x rest =>
      have hlen : l.length = pre.length + (rest.length + 1) := by have := HX.out.1; rw [this]; simp
      obtain ⟨k1, rfl⟩ : ∃ k1, gk = k1 + 1 := ⟨gk - 1, by have := HX.out.2.1; simp at this; omega⟩
      have d1 : decide ((pre.length : Int) < (l.length : Int)) = true := decide_eq_true (by omega)
      have hx0 := (Kd.R_celln 0 HLR.out (pre.length : Int) (by omega) (by omega)).1
      have hrd : rdOf 0 l (pre.length : Int) = x := by
        have := HX.out.1
        unfold rdOf
        rw [this]; simp
      rw [hrd, show ((pre.length : Int)).toNat = pre.length by omega] at hx0
      have b1_ : (0 : Int) ≤ (pre.length : Int) := by omega
      have b2_ : (pre.length : Int) < (l.length : Int) := by omega
      have b3_ : pre.length < l.length := by omega
      have hw1 : wrap64 ((pre.length : Int) + 1) = ((pre.length + 1 : Nat) : Int) := by have := HC.out.2; unfold wrap64; omega
      have hw1' : IntKind.i64.wrap ((pre.length : Int) + 1) = ((pre.length + 1 : Nat) : Int) := (i64_w _).trans hw1
      have HLEN := Aside0.mk hlen
      clear hlen
      have hgo := HH.out
      simp only [impl_IdleStones.go] at hgo
      by_cases cin : 1 ≤ x ∧ x ≤ (a0.size : Int)
      · rw [if_pos cin] at hgo
        obtain ⟨b, hb_, hgo⟩ := Option.bind_eq_some_iff.mp hgo
        have HPX := Aside0.mk hb_
        have HGO := Aside0.mk hgo
        have HW := Aside0.mk (show impl_within.f x 1 (a0.size : Int) = some true by unfold impl_within.f; rw [if_pos cin.1, decide_eq_true cin.2])
        clear hb_ hgo HH
        cases b with
        | false =>
          simp only [Bool.false_eq_true, if_false] at HGO
          go_wp2_with (first | (go_at_call 49; (with_reducible refine (impl_within.calls x 1 (a0.size : Int) true _ HW.out).mono ?_); rintro e w' ⟨rfl, ⟨nd, rfl⟩⟩; have n0_ := Aside0.mk (Kd.R_drewN HO.out nd); have n1_ := Aside0.mk (Kd.R_drewN HLR.out nd); have n2_ := Aside0.mk (pw_below_drewN HB.out nd); clear HO HLR HB; have HO := n0_; have HLR := n1_; have HB := n2_; clear n0_ n1_ n2_) | (go_at_call 46; (refine (HP.out x false _ cin.1 cin.2 HPX.out HB.out).mono ?_); rintro e w' ⟨rfl, hb⟩; have n0_ := Aside0.mk (Kd.R_below HO.out hb); have n1_ := Aside0.mk (Kd.R_below HLR.out hb); have n2_ := Aside0.mk (below_step HB.out hb); clear HO HLR HB hb; have HO := n0_; have HLR := n1_; have HB := n2_; clear n0_ n1_ n2_))
          go_roundg k1
          case measure => omega
          case rel => exact ⟨pre ++ [x], rest, acc, by first | rfl | (simp; done), ⟨by have := HX.out.1; rw [this]; simp, by have := HX.out.2.1; simp at this; omega, by have := HX.out.2.2; simp; omega⟩, HGO, HO, HLR, HB⟩
        | true =>
          simp only [if_true] at HGO
          have hal : acc.length ≤ 1000 := by have := HX.out.2.2; have := HC.out.2; omega
          have HAL := Aside0.mk hal
          clear hal
          go_wp2_with (first | (go_at_call 49; (with_reducible refine (impl_within.calls x 1 (a0.size : Int) true _ HW.out).mono ?_); rintro e w' ⟨rfl, ⟨nd, rfl⟩⟩; have n0_ := Aside0.mk (Kd.R_drewN HO.out nd); have n1_ := Aside0.mk (Kd.R_drewN HLR.out nd); have n2_ := Aside0.mk (pw_below_drewN HB.out nd); clear HO HLR HB; have HO := n0_; have HLR := n1_; have HB := n2_; clear n0_ n1_ n2_) | (go_at_call 46; (refine (HP.out x true _ cin.1 cin.2 HPX.out HB.out).mono ?_); rintro e w' ⟨rfl, hb⟩; have n0_ := Aside0.mk (Kd.R_below HO.out hb); have n1_ := Aside0.mk (Kd.R_below HLR.out hb); have n2_ := Aside0.mk (below_step HB.out hb); clear HO HLR HB hb; have HO := n0_; have HLR := n1_; have HB := n2_; clear n0_ n1_ n2_) | ((with_reducible refine gate_builtin (b := .append) (xs := #[.tmp 25, .tmp 27]) rfl ?_); at_builtin; refine Kd.R_append (Kd.int .i64) (w0 := w) w.heap.size rfl (.tmp 25) (.tmp 27) 27 3 (.int .i64 0) 8 rfl Tryd.underlying27 info3 rfl (by decide) (by omega) u5 acc x [.int .i64 x] (fun k => k ≠ g) (fun _ => False) rfl rfl ?aP (fun _ hk => hk.elim) ?aF ?aO ?aB ?aS ?aL ?_; (case aP => exact rfl); (case aB => exact (by repeat (first | exact HB.out | apply below_alloc | apply pw_below_drewN | apply below_drew1))); (case aF => exact (fun k hk => by have h1 := Kd.R_lt HLR.out g (by simp [Value.ownBlock]); (try simp only [World.size_alloc] at hk); omega)); (case aO => exact (by (with_reducible repeat (first | apply Kd.R_alloc | apply Kd.R_drewN | apply Kd.R_drew)); exact HO.out)); (case aS => exact (below_size (by repeat (first | exact HB.out | apply below_alloc | apply pw_below_drewN | apply below_drew1)))); (case aL => have := HAL.out; omega); intro v31 w10 ho hb hg hat; have n0_ := Aside0.mk (hb); have n1_ := Aside0.mk (ho); have n2_ := Aside0.mk (Kd.R_grown (by (with_reducible repeat (first | apply Kd.R_alloc | apply Kd.R_drewN | apply Kd.R_drew)); exact HLR.out) hg (fun k hk he => HO.out.1 k he.symm hk)); clear HB HO HLR; have HB := n0_; have HO := n1_; have HLR := n2_; clear n0_ n1_ n2_; clear ho hb hg hat))
          go_roundg k1
          case measure => omega
          case rel => exact ⟨pre ++ [x], rest, acc ++ [x], by first | rfl | (simp; done), ⟨by have := HX.out.1; rw [this]; simp, by have := HX.out.2.1; simp at this; omega, by have := HX.out.2.2; simp; omega⟩, HGO, HO, HLR, HB⟩
      · rw [if_neg cin] at hgo
        have HGO := Aside0.mk hgo
        have HW := Aside0.mk (show impl_within.f x 1 (a0.size : Int) = some false by
          unfold impl_within.f
          by_cases h1 : (1 : Int) ≤ x
          · rw [if_pos h1, decide_eq_false (fun h2 => cin ⟨h1, h2⟩)]
          · rw [if_neg h1])
        clear hgo HH
        go_wp2_with (go_at_call 49; (with_reducible refine (impl_within.calls x 1 (a0.size : Int) false _ HW.out).mono ?_); rintro e w' ⟨rfl, ⟨nd, rfl⟩⟩; have n0_ := Aside0.mk (Kd.R_drewN HO.out nd); have n1_ := Aside0.mk (Kd.R_drewN HLR.out nd); have n2_ := Aside0.mk (pw_below_drewN HB.out nd); clear HO HLR HB; have HO := n0_; have HLR := n1_; have HB := n2_; clear n0_ n1_ n2_)
        go_roundg k1
        case measure => omega
        case rel => exact ⟨pre ++ [x], rest, acc, by first | rfl | (simp; done), ⟨by have := HX.out.1; rw [this]; simp, by have := HX.out.2.1; simp at this; omega, by have := HX.out.2.2; simp; omega⟩, HGO, HO, HLR, HB⟩
def impl_IdleStones.p (a0 : ByteArray) (be th : List Int) (x : Int) : Option Bool := if (0 ≤ x ∧ x < (be.length : Int)) ∧ (0 ≤ (a0.size : Int) + 1 - x ∧ (a0.size : Int) + 1 - x < (th.length : Int)) ∧ a0.size ≤ 1000 then some (decide (rd be x < 0) || decide (rd th ((a0.size : Int) + 1 - x) < 0)) else none
/-- A row that lies in a block. -/
def impl_IdleStones.Rw (W : World) (g : Nat) (xs : List Int) : Prop := ∃ arr : Array Value, W.heap[g]? = some (.cells arr 3 (0, 0)) ∧ ∀ i, i < xs.length → arr[i]? = some (.int .i64 (rd xs (i : Int)))
theorem impl_IdleStones.Rw.at {W : World} {g : Nat} {xs : List Int} (h : impl_IdleStones.Rw W g xs) (i : Nat) (hi : i < xs.length) : W.cell? ⟨g, i, none⟩ = some (.int .i64 (rd xs (i : Int))) := by
  obtain ⟨arr, h1, h2⟩ := h
  rw [blk_cell h1, h2 i hi]
theorem impl_IdleStones.Rw.kept {W W' : World} {g : Nat} {xs : List Int} (h : impl_IdleStones.Rw W g xs) (hk : W'.heap[g]? = W.heap[g]?) : impl_IdleStones.Rw W' g xs := by
  obtain ⟨arr, h1, h2⟩ := h
  exact ⟨arr, hk.trans h1, h2⟩
theorem impl_IdleStones.Rw.lt {W : World} {g : Nat} {xs : List Int} (h : impl_IdleStones.Rw W g xs) : g < W.heap.size := by
  obtain ⟨arr, h1, h2⟩ := h
  exact blk_lt h1
theorem impl_IdleStones.Rw.ne {W : World} {g b : Nat} {xs : List Int} {v : Value} (h : impl_IdleStones.Rw W g xs) (hb : W.heap[b]? = some (.cells #[v] 27 (0, 0))) : g ≠ b := by
  obtain ⟨arr, h1, h2⟩ := h
  rintro rfl
  rw [h1] at hb
  simp at hb
theorem impl_IdleStones.Rw.ne' {W : World} {g b : Nat} {xs : List Int} {v : Value} (h : impl_IdleStones.Rw W g xs) (hb : Boxed W b 27 v) : g ≠ b := h.ne hb
theorem impl_IdleStones.ofR {W : World} {base : Nat} {v : Value} {xs : List Int} (h : Kd.R (Kd.int .i64) 3 W base (fun _ => True) v xs) (hp : 0 < xs.length) : ∃ g c, v = .slice (some ⟨g, 0, none⟩) xs.length c ∧ impl_IdleStones.Rw W g xs := by
  obtain ⟨g, c, hv, _, _, cells, hc⟩ := Kd.R_form h hp
  subst hv
  refine ⟨g, c, rfl, cells, hc, fun i hi => ?_⟩
  have h1 := (Kd.R_celln 0 h (i : Int) (by omega) (by omega)).1
  rw [Int.toNat_natCast, blk_cell hc] at h1
  exact h1
set_option maxHeartbeats 8000000 in
set_option maxRecDepth 100000 in
theorem impl_IdleStones.clo (a0 : ByteArray) (be th : List Int) (x : Int) (b : Bool) (b1 b2 b3 g1 g2 c1 c2 : Nat) (W : World) (h1 : W.cell? ⟨b1, 0, none⟩ = some (.slice (some ⟨g1, 0, none⟩) be.length c1)) (h2 : W.cell? ⟨b2, 0, none⟩ = some (.slice (some ⟨g2, 0, none⟩) th.length c2)) (h3 : W.cell? ⟨b3, 0, none⟩ = some (.string a0)) (hb : impl_IdleStones.Rw W g1 be) (ht : impl_IdleStones.Rw W g2 th) (h : impl_IdleStones.p a0 be th x = some b) :
    Calls Tryd.prog 46 #[.int .i64 x, .pointer (some ⟨b1, 0, none⟩), .pointer (some ⟨b2, 0, none⟩), .pointer (some ⟨b3, 0, none⟩)] W fun e W' => e = .returned (.bool b) ∧ Below W.heap.size W W' := by
  unfold impl_IdleStones.p at h
  by_cases c : (0 ≤ x ∧ x < (be.length : Int)) ∧ (0 ≤ (a0.size : Int) + 1 - x ∧ (a0.size : Int) + 1 - x < (th.length : Int)) ∧ a0.size ≤ 1000
  case neg => rw [if_neg c] at h; cases h
  rw [if_pos c] at h
  obtain rfl := Option.some.inj h
  obtain ⟨⟨p1, p2⟩, ⟨p3, p4⟩, p5⟩ := c
  have hx1 := hb.at x.toNat (by omega)
  have hx2 := ht.at ((a0.size : Int) + 1 - x).toNat (by omega)
  rw [show ((x.toNat : Nat) : Int) = x by omega] at hx1
  rw [show ((((a0.size : Int) + 1 - x).toNat : Nat) : Int) = (a0.size : Int) + 1 - x by omega] at hx2
  have hw1 : wrap64 ((a0.size : Int) + 1) = (a0.size : Int) + 1 := by unfold wrap64; omega
  have hw1' : IntKind.i64.wrap ((a0.size : Int) + 1) = (a0.size : Int) + 1 := (i64_w _).trans hw1
  have hw2 : wrap64 ((a0.size : Int) + 1 - x) = (a0.size : Int) + 1 - x := by unfold wrap64; omega
  have hw2' : IntKind.i64.wrap ((a0.size : Int) + 1 - x) = (a0.size : Int) + 1 - x := (i64_w _).trans hw2
  clear h
  by_cases c1 : rd be x < 0
  · have d1 : decide (rd be x < 0) = true := decide_eq_true c1
    go_enter Tryd.func46, Tryd.ntmps46
    go_wp2
    go_ret
    exact ⟨by rw [d1]; rfl, Below.refl _ _⟩
  · have d1 : decide (rd be x < 0) = false := decide_eq_false c1
    obtain ⟨j, hj⟩ : ∃ j, (a0.size : Int) + 1 - x = j := ⟨_, rfl⟩
    rw [hj] at hw2 hw2' hx2 p3 p4 ⊢
    go_enter Tryd.func46, Tryd.ntmps46
    go_wp2
    go_ret
    exact ⟨by rfl, Below.refl _ _⟩
theorem wpOp_of {P : Program} {ops : Array Oper} {Q : Exit → Act → World → Prop} {i : Nat} {K : Act → World → Prop} {a : Act} {w : World} {o : Oper} (ho : ops[i]? = some o) (h : ∀ (K' : Act → World → Prop), (∀ a' w', K a' w' → K' a' w') → (if Region.wanted o (yielded ops a.tmps) then o.wp P a w K' Q ∨ (o.asks P a w ∧ LetsOut Q) else K' (a.put o.dst undef) w)) : wpOp P ops Q i K a w := by
  unfold Go.wpOp
  rw [ho]
  exact h K (fun _ _ h => h)
/-- What holds in the region where some of its operations are done. -/
structure impl_IdleStones.S (w0 : World) (a0 m : ByteArray) (a1 : Int) (th be : List Int) (L : Nat → Bool) (v6 v7 v12 v13 v14 v15 v16 v17 v18 : Value) (W : World) : Prop where
  hb : Below w0.heap.size w0 W
  h0 : L 0 = true → v12 = .string a0
  h1 : L 1 = true → v13 = .string m
  h2 : L 2 = true → v14 = .int .i64 a1
  h3 : L 3 = true → ∃ g c, v15 = .slice (some ⟨g, 0, none⟩) th.length c ∧ impl_IdleStones.Rw W g th
  h4 : L 4 = true → v16 = .string a0
  h5 : L 5 = true → v17 = .int .i64 a1
  h6 : L 6 = true → ∃ g c, v18 = .slice (some ⟨g, 0, none⟩) be.length c ∧ impl_IdleStones.Rw W g be
  h7 : L 7 = true → ∃ b u, v6 = .pointer (some ⟨b, 0, none⟩) ∧ w0.heap.size ≤ b ∧ Boxed W b 27 u ∧ (L 9 = true → u = v15)
  h8 : L 8 = true → ∃ b u, v7 = .pointer (some ⟨b, 0, none⟩) ∧ w0.heap.size ≤ b ∧ Boxed W b 27 u ∧ (L 10 = true → u = v18)
  h78 : L 7 = true → L 8 = true → v6 ≠ v7
  h9 : L 9 = true → L 3 = true ∧ L 7 = true
  h10 : L 10 = true → L 6 = true ∧ L 8 = true
theorem impl_IdleStones.S.world {w0 W W' : World} {a0 m : ByteArray} {a1 : Int} {th be : List Int} {L : Nat → Bool} {v6 v7 v12 v13 v14 v15 v16 v17 v18 : Value} (H : impl_IdleStones.S w0 a0 m a1 th be L v6 v7 v12 v13 v14 v15 v16 v17 v18 W) (hk : Below W.heap.size W W') : impl_IdleStones.S w0 a0 m a1 th be L v6 v7 v12 v13 v14 v15 v16 v17 v18 W' := by
  refine ⟨below_step H.hb hk, H.h0, H.h1, H.h2, fun hl => ?_, H.h4, H.h5, fun hl => ?_, fun hl => ?_, fun hl => ?_, H.h78, H.h9, H.h10⟩
  · obtain ⟨g, c, e, hr⟩ := H.h3 hl
    exact ⟨g, c, e, hr.kept (hk.block g hr.lt)⟩
  · obtain ⟨g, c, e, hr⟩ := H.h6 hl
    exact ⟨g, c, e, hr.kept (hk.block g hr.lt)⟩
  · obtain ⟨b, u, e, h1, h2, h3⟩ := H.h7 hl
    exact ⟨b, u, e, h1, (hk.block b h2.lt).trans h2, h3⟩
  · obtain ⟨b, u, e, h1, h2, h3⟩ := H.h8 hl
    exact ⟨b, u, e, h1, (hk.block b h2.lt).trans h2, h3⟩
theorem impl_IdleStones.S.drew {w0 W : World} {a0 m : ByteArray} {a1 : Int} {th be : List Int} {L : Nat → Bool} {v6 v7 v12 v13 v14 v15 v16 v17 v18 : Value} (H : impl_IdleStones.S w0 a0 m a1 th be L v6 v7 v12 v13 v14 v15 v16 v17 v18 W) : impl_IdleStones.S w0 a0 m a1 th be L v6 v7 v12 v13 v14 v15 v16 v17 v18 W.drew := H.world (below_drew1 (Below.refl _ _))
theorem impl_IdleStones.boxes (w : World) (a0 : ByteArray) : (∀ W', Below (w.alloc (.cells #[.string a0] 9)).heap.size (w.alloc (.cells #[.string a0] 9)) W' → W'.cell? ⟨w.heap.size, 0, none⟩ = some (.string a0) ∧ Below w.heap.size w W') := by
  intro W' hb
  have b1 := Boxed.new w 9 (.string a0)
  exact ⟨(hb.cell (p := ⟨w.heap.size, 0, none⟩) (by simp)).trans b1.cell, below_weaken (below_alloc (Below.refl _ _) _) (by simp) hb⟩
def impl_IdleStones.f (k : Nat) (a0 : ByteArray) (a1 : Int) : Option (List Int × Bool) := (impl_isCrossed.f a0 a1).bind fun t => if t = true then (impl_mirrored.f a0).bind fun m => (impl_leapsLeft.f k m a1).bind fun th => (impl_leapsLeft.f k a0 a1).bind fun be => if 0 < th.length ∧ 0 < be.length then (impl_IdleStones.st k a0 (impl_IdleStones.p a0 be th)).bind fun r => some (r, true) else none else some ([], false)
theorem impl_IdleStones.mono : ∀ a0 a1 k, LeO (impl_IdleStones.f k a0 a1) (impl_IdleStones.f (k + 1) a0 a1) := fun a0 a1 k =>
  LeO.bind (LeO.refl _) (fun _ => LeO.ite (LeO.bind (LeO.refl _) (fun m => LeO.bind (impl_leapsLeft.mono m a1 k) (fun _ => LeO.bind (impl_leapsLeft.mono a0 a1 k) (fun _ => LeO.ite (LeO.bind (impl_IdleStones.st_le (fun _ => LeO.refl _)) (fun _ => LeO.refl _)) (LeO.refl _))))) (LeO.refl _))
set_option maxHeartbeats 8000000 in
set_option maxRecDepth 100000 in
theorem impl_IdleStones.calls (k : Nat) (a0 : ByteArray) (a1 : Int) (r1 : List Int) (r2 : Bool) (w : World) (h : impl_IdleStones.f k a0 a1 = some (r1, r2)) :
    Calls Tryd.prog 26 #[.string a0, .int .i64 a1] w fun e w' => ∃ v0_ : Value, e = .returned (.tuple #[v0_, .bool r2]) ∧ Kd.R (Kd.int .i64) 3 w' w.heap.size (fun _ => True) v0_ r1 ∧ Below w.heap.size w w' := by
  obtain ⟨t, ht, h⟩ := Option.bind_eq_some_iff.mp h
  have HT := Aside0.mk ht
  have HF := Aside0.mk (impl_IdleStones.boxes w a0)
  clear ht
  cases t with
  | false =>
    simp only [Bool.false_eq_true, if_false, Option.some.injEq, Prod.mk.injEq] at h
    obtain ⟨rfl, rfl⟩ := h
    go_enter Tryd.func26, Tryd.ntmps26
    go_wp2_with (go_at_call 35; (refine (impl_isCrossed.calls a0 a1 false _ HT.out).mono ?_); rintro e w3 ⟨rfl, hb⟩; obtain ⟨f1, hbw⟩ := HF.out w3 hb; have HB := Aside0.mk hbw; clear hb hbw)
    go_ret2
    exact ⟨_, rfl, Kd.R_nil _ _ _ _ _, HB.out⟩
  | true =>
    simp only [if_true] at h
    obtain ⟨m, hm, h⟩ := Option.bind_eq_some_iff.mp h
    obtain ⟨th, hth, h⟩ := Option.bind_eq_some_iff.mp h
    obtain ⟨be, hbe, h⟩ := Option.bind_eq_some_iff.mp h
    by_cases hl : 0 < th.length ∧ 0 < be.length
    case neg => rw [if_neg hl] at h; cases h
    rw [if_pos hl] at h
    obtain ⟨r, hr, h⟩ := Option.bind_eq_some_iff.mp h
    simp only [Option.some.injEq, Prod.mk.injEq] at h
    obtain ⟨rfl, rfl⟩ := h
    have HM := Aside0.mk hm
    have HTH := Aside0.mk hth
    have HBE := Aside0.mk hbe
    have HL := Aside0.mk hl
    have HR := Aside0.mk hr
    clear hm hth hbe hl hr
    go_enter Tryd.func26, Tryd.ntmps26
    go_wp2_with (first | (go_at_call 35; (refine (impl_isCrossed.calls a0 a1 true _ HT.out).mono ?_); rintro e w3 ⟨rfl, hb⟩; have HB := Aside0.mk hb; clear hb))
    refine region_inv (J := fun L a W => ∃ v6 v7 v12 v13 v14 v15 v16 v17 v18 : Value, a = { tmps := #[.string a0, .int .i64 a1, .pointer (some ⟨w.heap.size, 0, none⟩), undef, .slice none 0 0, .bool false, v6, v7, .string a0, .int .i64 a1, .bool true, .bool false, v12, v13, v14, v15, v16, v17, v18, undef, undef, undef], defers := [] } ∧ impl_IdleStones.S (w.alloc (.cells #[.string a0] 9)) a0 m a1 th be L v6 v7 v12 v13 v14 v15 v16 v17 v18 W) (by kernel_rfl) (by kernel_rfl) ?start ?step ?fin
    case start => exact ⟨undef, undef, undef, undef, undef, undef, undef, undef, undef, rfl, ⟨below_drew1 HB.out, nofun, nofun, nofun, nofun, nofun, nofun, nofun, nofun, nofun, nofun, nofun, nofun⟩⟩
    case fin =>
      rintro L a W hall ⟨v6, v7, v12, v13, v14, v15, v16, v17, v18, rfl, H⟩
      obtain ⟨g3, c3, rfl, r3⟩ := H.h3 (hall 3 (by decide))
      obtain ⟨g6, c6, rfl, r6⟩ := H.h6 (hall 6 (by decide))
      obtain ⟨b7, u7, rfl, x71, x72, x73⟩ := H.h7 (hall 7 (by decide))
      obtain ⟨b8, u8, rfl, x81, x82, x83⟩ := H.h8 (hall 8 (by decide))
      obtain rfl := x73 (hall 9 (by decide))
      obtain rfl := x83 (hall 10 (by decide))
      obtain ⟨f1, hbw⟩ := HF.out W H.hb
      have HB := Aside0.mk hbw
      have q7 := x72.cell
      have q8 := x82.cell
      have HP := Aside0.mk (fun (W' : World) (hb' : Below W.heap.size W W') => (⟨(hb'.cell (p := ⟨w.heap.size, 0, none⟩) (World.block_lt_of_cell? W _ f1)).trans f1, (hb'.cell (p := ⟨b7, 0, none⟩) (World.block_lt_of_cell? W _ q7)).trans q7, (hb'.cell (p := ⟨b8, 0, none⟩) (World.block_lt_of_cell? W _ q8)).trans q8, r3.kept (hb'.block g3 r3.lt), r6.kept (hb'.block g6 r6.lt)⟩ : W'.cell? ⟨w.heap.size, 0, none⟩ = some (.string a0) ∧ W'.cell? ⟨b7, 0, none⟩ = some (.slice (some ⟨g3, 0, none⟩) th.length c3) ∧ W'.cell? ⟨b8, 0, none⟩ = some (.slice (some ⟨g6, 0, none⟩) be.length c6) ∧ impl_IdleStones.Rw W' g3 th ∧ impl_IdleStones.Rw W' g6 be))
      clear hbw H hall r3 r6 x72 x82 x73 x83
      go_wp2_with (go_at_call 41; (refine (impl_IdleStones.stones k a0 b8 b7 w.heap.size (impl_IdleStones.p a0 be th) r _ ?hp HR.out).mono ?_); (case hp => intro x b W' _ _ hpx hbx; obtain ⟨q1, q2, q3, q4, q5⟩ := HP.out W' hbx; exact impl_IdleStones.clo a0 be th x b _ _ _ _ _ _ _ W' q3 q2 q1 q5 q4 hpx); rintro e w5 ⟨v0, rfl, ho, hb⟩; have HO := Aside0.mk (Kd.R_lower ho (below_size HB.out)); have n0_ := Aside0.mk (below_step HB.out hb); clear HB hb ho; have HB := n0_; clear n0_)
      go_ret2
      exact ⟨_, rfl, HO.out, HB.out⟩
    case step =>
      rintro L a W i o ho hL hp ⟨v6, v7, v12, v13, v14, v15, v16, v17, v18, rfl, H⟩
      have hi : i < 11 := (Array.getElem?_eq_some_iff.1 ho).1
      rcases (show i = 0 ∨ i = 1 ∨ i = 2 ∨ i = 3 ∨ i = 4 ∨ i = 5 ∨ i = 6 ∨ i = 7 ∨ i = 8 ∨ i = 9 ∨ i = 10 by omega) with rfl | rfl | rfl | rfl | rfl | rfl | rfl | rfl | rfl | rfl | rfl
      all_goals (obtain rfl : _ = o := Option.some.inj (show some _ = some o from ho); simp [Region.binds] at hp; obtain ⟨f1, hbw⟩ := HF.out W H.hb; refine wpOp_of rfl (fun K hK => ?_))
      · -- operation 0
        go_simp
        refine Or.inl ?_
        have H1 := H
        refine hK _ _ ⟨v6, v7, _, v13, v14, v15, v16, v17, v18, rfl, ⟨H1.hb, ?_, ?_, ?_, ?_, ?_, ?_, ?_, ?_, ?_, ?_, ?_, ?_⟩⟩
        · exact fun _ => rfl
        · exact fun hl => H1.h1 (by simpa using hl)
        · exact fun hl => H1.h2 (by simpa using hl)
        · exact fun hl => H1.h3 (by simpa using hl)
        · exact fun hl => H1.h4 (by simpa using hl)
        · exact fun hl => H1.h5 (by simpa using hl)
        · exact fun hl => H1.h6 (by simpa using hl)
        · exact fun hl => by obtain ⟨b, u, e, x1, x2, x3⟩ := H1.h7 (by simpa using hl); exact ⟨b, u, e, x1, x2, fun h9 => x3 (by simpa using h9)⟩
        · exact fun hl => by obtain ⟨b, u, e, x1, x2, x3⟩ := H1.h8 (by simpa using hl); exact ⟨b, u, e, x1, x2, fun h9 => x3 (by simpa using h9)⟩
        · exact fun hl hl2 => H1.h78 (by simpa using hl) (by simpa using hl2)
        · exact fun hl => by have := H1.h9 (by simpa using hl); simp [this]
        · exact fun hl => by have := H1.h10 (by simpa using hl); simp [this]
      · -- operation 1
        obtain rfl := H.h0 hp
        go_simp
        refine Or.inl ?_
        refine (impl_mirrored.calls a0 m _ HM.out).mono ?_
        rintro e w' ⟨rfl, hb⟩
        have H1 := H.world hb
        refine hK _ _ ⟨v6, v7, _, _, v14, v15, v16, v17, v18, rfl, ⟨H1.hb, ?_, ?_, ?_, ?_, ?_, ?_, ?_, ?_, ?_, ?_, ?_, ?_⟩⟩
        · exact fun hl => H1.h0 (by simpa using hl)
        · exact fun _ => rfl
        · exact fun hl => H1.h2 (by simpa using hl)
        · exact fun hl => H1.h3 (by simpa using hl)
        · exact fun hl => H1.h4 (by simpa using hl)
        · exact fun hl => H1.h5 (by simpa using hl)
        · exact fun hl => H1.h6 (by simpa using hl)
        · exact fun hl => by obtain ⟨b, u, e, x1, x2, x3⟩ := H1.h7 (by simpa using hl); exact ⟨b, u, e, x1, x2, fun h9 => x3 (by simpa using h9)⟩
        · exact fun hl => by obtain ⟨b, u, e, x1, x2, x3⟩ := H1.h8 (by simpa using hl); exact ⟨b, u, e, x1, x2, fun h9 => x3 (by simpa using h9)⟩
        · exact fun hl hl2 => H1.h78 (by simpa using hl) (by simpa using hl2)
        · exact fun hl => by have := H1.h9 (by simpa using hl); simp [this]
        · exact fun hl => by have := H1.h10 (by simpa using hl); simp [this]
      · -- operation 2
        go_simp
        refine Or.inl ?_
        have H1 := H
        refine hK _ _ ⟨v6, v7, v12, v13, _, v15, v16, v17, v18, rfl, ⟨H1.hb, ?_, ?_, ?_, ?_, ?_, ?_, ?_, ?_, ?_, ?_, ?_, ?_⟩⟩
        · exact fun hl => H1.h0 (by simpa using hl)
        · exact fun hl => H1.h1 (by simpa using hl)
        · exact fun _ => rfl
        · exact fun hl => H1.h3 (by simpa using hl)
        · exact fun hl => H1.h4 (by simpa using hl)
        · exact fun hl => H1.h5 (by simpa using hl)
        · exact fun hl => H1.h6 (by simpa using hl)
        · exact fun hl => by obtain ⟨b, u, e, x1, x2, x3⟩ := H1.h7 (by simpa using hl); exact ⟨b, u, e, x1, x2, fun h9 => x3 (by simpa using h9)⟩
        · exact fun hl => by obtain ⟨b, u, e, x1, x2, x3⟩ := H1.h8 (by simpa using hl); exact ⟨b, u, e, x1, x2, fun h9 => x3 (by simpa using h9)⟩
        · exact fun hl hl2 => H1.h78 (by simpa using hl) (by simpa using hl2)
        · exact fun hl => by have := H1.h9 (by simpa using hl); simp [this]
        · exact fun hl => by have := H1.h10 (by simpa using hl); simp [this]
      · -- operation 3
        obtain rfl := H.h1 hp.1
        obtain rfl := H.h2 hp.2.1
        go_simp
        refine Or.inl ?_
        refine (impl_leapsLeft.calls k m a1 th _ HTH.out).mono ?_
        rintro e w' ⟨v0, rfl, ho, hb⟩
        have H1 := H.world hb
        obtain ⟨g, c, rfl, hrow⟩ := impl_IdleStones.ofR ho HL.out.1
        refine hK _ _ ⟨v6, v7, v12, _, _, _, v16, v17, v18, rfl, ⟨H1.hb, ?_, ?_, ?_, ?_, ?_, ?_, ?_, ?_, ?_, ?_, ?_, ?_⟩⟩
        · exact fun hl => H1.h0 (by simpa using hl)
        · exact fun hl => H1.h1 (by simpa using hl)
        · exact fun hl => H1.h2 (by simpa using hl)
        · exact fun _ => ⟨g, c, rfl, hrow⟩
        · exact fun hl => H1.h4 (by simpa using hl)
        · exact fun hl => H1.h5 (by simpa using hl)
        · exact fun hl => H1.h6 (by simpa using hl)
        · exact fun hl => by obtain ⟨b, u, e, x1, x2, x3⟩ := H1.h7 (by simpa using hl); exact ⟨b, u, e, x1, x2, fun h9 => absurd (H1.h9 (by simpa using h9)).1 (by simp [hL])⟩
        · exact fun hl => by obtain ⟨b, u, e, x1, x2, x3⟩ := H1.h8 (by simpa using hl); exact ⟨b, u, e, x1, x2, fun h9 => x3 (by simpa using h9)⟩
        · exact fun hl hl2 => H1.h78 (by simpa using hl) (by simpa using hl2)
        · exact fun hl => by have := H1.h9 (by simpa using hl); simp [this]
        · exact fun hl => by have := H1.h10 (by simpa using hl); simp [this]
      · -- operation 4
        go_simp
        refine Or.inl ?_
        have H1 := H
        refine hK _ _ ⟨v6, v7, v12, v13, v14, v15, _, v17, v18, rfl, ⟨H1.hb, ?_, ?_, ?_, ?_, ?_, ?_, ?_, ?_, ?_, ?_, ?_, ?_⟩⟩
        · exact fun hl => H1.h0 (by simpa using hl)
        · exact fun hl => H1.h1 (by simpa using hl)
        · exact fun hl => H1.h2 (by simpa using hl)
        · exact fun hl => H1.h3 (by simpa using hl)
        · exact fun _ => rfl
        · exact fun hl => H1.h5 (by simpa using hl)
        · exact fun hl => H1.h6 (by simpa using hl)
        · exact fun hl => by obtain ⟨b, u, e, x1, x2, x3⟩ := H1.h7 (by simpa using hl); exact ⟨b, u, e, x1, x2, fun h9 => x3 (by simpa using h9)⟩
        · exact fun hl => by obtain ⟨b, u, e, x1, x2, x3⟩ := H1.h8 (by simpa using hl); exact ⟨b, u, e, x1, x2, fun h9 => x3 (by simpa using h9)⟩
        · exact fun hl hl2 => H1.h78 (by simpa using hl) (by simpa using hl2)
        · exact fun hl => by have := H1.h9 (by simpa using hl); simp [this]
        · exact fun hl => by have := H1.h10 (by simpa using hl); simp [this]
      · -- operation 5
        go_simp
        refine Or.inl ?_
        have H1 := H
        refine hK _ _ ⟨v6, v7, v12, v13, v14, v15, v16, _, v18, rfl, ⟨H1.hb, ?_, ?_, ?_, ?_, ?_, ?_, ?_, ?_, ?_, ?_, ?_, ?_⟩⟩
        · exact fun hl => H1.h0 (by simpa using hl)
        · exact fun hl => H1.h1 (by simpa using hl)
        · exact fun hl => H1.h2 (by simpa using hl)
        · exact fun hl => H1.h3 (by simpa using hl)
        · exact fun hl => H1.h4 (by simpa using hl)
        · exact fun _ => rfl
        · exact fun hl => H1.h6 (by simpa using hl)
        · exact fun hl => by obtain ⟨b, u, e, x1, x2, x3⟩ := H1.h7 (by simpa using hl); exact ⟨b, u, e, x1, x2, fun h9 => x3 (by simpa using h9)⟩
        · exact fun hl => by obtain ⟨b, u, e, x1, x2, x3⟩ := H1.h8 (by simpa using hl); exact ⟨b, u, e, x1, x2, fun h9 => x3 (by simpa using h9)⟩
        · exact fun hl hl2 => H1.h78 (by simpa using hl) (by simpa using hl2)
        · exact fun hl => by have := H1.h9 (by simpa using hl); simp [this]
        · exact fun hl => by have := H1.h10 (by simpa using hl); simp [this]
      · -- operation 6
        obtain rfl := H.h4 hp.1
        obtain rfl := H.h5 hp.2.1
        go_simp
        refine Or.inl ?_
        refine (impl_leapsLeft.calls k a0 a1 be _ HBE.out).mono ?_
        rintro e w' ⟨v0, rfl, ho, hb⟩
        have H1 := H.world hb
        obtain ⟨g, c, rfl, hrow⟩ := impl_IdleStones.ofR ho HL.out.2
        refine hK _ _ ⟨v6, v7, v12, v13, v14, v15, _, _, _, rfl, ⟨H1.hb, ?_, ?_, ?_, ?_, ?_, ?_, ?_, ?_, ?_, ?_, ?_, ?_⟩⟩
        · exact fun hl => H1.h0 (by simpa using hl)
        · exact fun hl => H1.h1 (by simpa using hl)
        · exact fun hl => H1.h2 (by simpa using hl)
        · exact fun hl => H1.h3 (by simpa using hl)
        · exact fun hl => H1.h4 (by simpa using hl)
        · exact fun hl => H1.h5 (by simpa using hl)
        · exact fun _ => ⟨g, c, rfl, hrow⟩
        · exact fun hl => by obtain ⟨b, u, e, x1, x2, x3⟩ := H1.h7 (by simpa using hl); exact ⟨b, u, e, x1, x2, fun h9 => x3 (by simpa using h9)⟩
        · exact fun hl => by obtain ⟨b, u, e, x1, x2, x3⟩ := H1.h8 (by simpa using hl); exact ⟨b, u, e, x1, x2, fun h9 => absurd (H1.h10 (by simpa using h9)).1 (by simp [hL])⟩
        · exact fun hl hl2 => H1.h78 (by simpa using hl) (by simpa using hl2)
        · exact fun hl => by have := H1.h9 (by simpa using hl); simp [this]
        · exact fun hl => by have := H1.h10 (by simpa using hl); simp [this]
      · -- operation 7
        go_simp
        refine Or.inl ?_
        have H1 := H.world (below_alloc (Below.refl _ _) (Obj.cells #[Value.slice none 0 0] 27))
        refine hK _ _ ⟨_, v7, v12, v13, v14, v15, v16, v17, v18, rfl, ⟨H1.hb, ?_, ?_, ?_, ?_, ?_, ?_, ?_, ?_, ?_, ?_, ?_, ?_⟩⟩
        · exact fun hl => H1.h0 (by simpa using hl)
        · exact fun hl => H1.h1 (by simpa using hl)
        · exact fun hl => H1.h2 (by simpa using hl)
        · exact fun hl => H1.h3 (by simpa using hl)
        · exact fun hl => H1.h4 (by simpa using hl)
        · exact fun hl => H1.h5 (by simpa using hl)
        · exact fun hl => H1.h6 (by simpa using hl)
        · exact fun _ => ⟨W.heap.size, .slice none 0 0, rfl, below_size H.hb, Boxed.new W _ _, fun h9 => absurd (H1.h9 (by simpa using h9)).2 (by simp [hL])⟩
        · exact fun hl => by obtain ⟨b, u, e, x1, x2, x3⟩ := H1.h8 (by simpa using hl); exact ⟨b, u, e, x1, x2, fun h9 => x3 (by simpa using h9)⟩
        · exact fun hl hl2 => by obtain ⟨b, u, e, x1, x2, x3⟩ := H.h8 (by simpa using hl2); intro e'; rw [e] at e'; have h3 := x2.lt; injection e' with e2; injection e2 with e2; injection e2 with e2; omega
        · exact fun hl => by have := H1.h9 (by simpa using hl); simp [this]
        · exact fun hl => by have := H1.h10 (by simpa using hl); simp [this]
      · -- operation 8
        go_simp
        refine Or.inl ?_
        have H1 := H.world (below_alloc (Below.refl _ _) (Obj.cells #[Value.slice none 0 0] 27))
        refine hK _ _ ⟨v6, _, v12, v13, v14, v15, v16, v17, v18, rfl, ⟨H1.hb, ?_, ?_, ?_, ?_, ?_, ?_, ?_, ?_, ?_, ?_, ?_, ?_⟩⟩
        · exact fun hl => H1.h0 (by simpa using hl)
        · exact fun hl => H1.h1 (by simpa using hl)
        · exact fun hl => H1.h2 (by simpa using hl)
        · exact fun hl => H1.h3 (by simpa using hl)
        · exact fun hl => H1.h4 (by simpa using hl)
        · exact fun hl => H1.h5 (by simpa using hl)
        · exact fun hl => H1.h6 (by simpa using hl)
        · exact fun hl => by obtain ⟨b, u, e, x1, x2, x3⟩ := H1.h7 (by simpa using hl); exact ⟨b, u, e, x1, x2, fun h9 => x3 (by simpa using h9)⟩
        · exact fun _ => ⟨W.heap.size, .slice none 0 0, rfl, below_size H.hb, Boxed.new W _ _, fun h9 => absurd (H1.h10 (by simpa using h9)).2 (by simp [hL])⟩
        · exact fun hl hl2 => by obtain ⟨b, u, e, x1, x2, x3⟩ := H.h7 (by simpa using hl); intro e'; rw [e] at e'; have h3 := x2.lt; injection e' with e2; injection e2 with e2; injection e2 with e2; omega
        · exact fun hl => by have := H1.h9 (by simpa using hl); simp [this]
        · exact fun hl => by have := H1.h10 (by simpa using hl); simp [this]
      · -- operation 9
        obtain ⟨b, u, rfl, x1, x2, x3⟩ := H.h7 hp.1
        obtain ⟨g, c, rfl, hrow⟩ := H.h3 hp.2.1
        have c1 := x2.cell
        have c2 := x2.frozen
        go_simp
        refine Or.inl ?_
        have H1 := H
        refine hK _ _ ⟨_, v7, v12, v13, v14, _, v16, v17, v18, rfl, ⟨Below.setCell (p := ⟨b, 0, none⟩) H1.hb x1 _, ?_, ?_, ?_, ?_, ?_, ?_, ?_, ?_, ?_, ?_, ?_, ?_⟩⟩
        · exact fun hl => H1.h0 (by simpa using hl)
        · exact fun hl => H1.h1 (by simpa using hl)
        · exact fun hl => H1.h2 (by simpa using hl)
        · exact fun hl => by obtain ⟨g', c', e, hr'⟩ := H1.h3 (by simpa using hl); exact ⟨g', c', e, hr'.kept (Below.heap_setCell _ _ _ _ (hr'.ne' x2))⟩
        · exact fun hl => H1.h4 (by simpa using hl)
        · exact fun hl => H1.h5 (by simpa using hl)
        · exact fun hl => by obtain ⟨g', c', e, hr'⟩ := H1.h6 (by simpa using hl); exact ⟨g', c', e, hr'.kept (Below.heap_setCell _ _ _ _ (hr'.ne' x2))⟩
        · exact fun _ => ⟨b, _, rfl, x1, x2.set _, fun _ => rfl⟩
        · exact fun hl => by obtain ⟨b', u', e, y1, y2, y3⟩ := H1.h8 (by simpa using hl); exact ⟨b', u', e, y1, y2.other (fun eb => H1.h78 (by simp [hp]) (by simpa using hl) (by rw [e, eb])) _, fun h9 => y3 (by simpa using h9)⟩
        · exact fun hl hl2 => H1.h78 (by simpa using hl) (by simpa using hl2)
        · exact fun _ => by simp [hp]
        · exact fun hl => by have := H1.h10 (by simpa using hl); simp [this]
      · -- operation 10
        obtain ⟨b, u, rfl, x1, x2, x3⟩ := H.h8 hp.1
        obtain ⟨g, c, rfl, hrow⟩ := H.h6 hp.2.1
        have c1 := x2.cell
        have c2 := x2.frozen
        go_simp
        refine Or.inl ?_
        have H1 := H
        refine hK _ _ ⟨v6, _, v12, v13, v14, v15, v16, v17, _, rfl, ⟨Below.setCell (p := ⟨b, 0, none⟩) H1.hb x1 _, ?_, ?_, ?_, ?_, ?_, ?_, ?_, ?_, ?_, ?_, ?_, ?_⟩⟩
        · exact fun hl => H1.h0 (by simpa using hl)
        · exact fun hl => H1.h1 (by simpa using hl)
        · exact fun hl => H1.h2 (by simpa using hl)
        · exact fun hl => by obtain ⟨g', c', e, hr'⟩ := H1.h3 (by simpa using hl); exact ⟨g', c', e, hr'.kept (Below.heap_setCell _ _ _ _ (hr'.ne' x2))⟩
        · exact fun hl => H1.h4 (by simpa using hl)
        · exact fun hl => H1.h5 (by simpa using hl)
        · exact fun hl => by obtain ⟨g', c', e, hr'⟩ := H1.h6 (by simpa using hl); exact ⟨g', c', e, hr'.kept (Below.heap_setCell _ _ _ _ (hr'.ne' x2))⟩
        · exact fun hl => by obtain ⟨b', u', e, y1, y2, y3⟩ := H1.h7 (by simpa using hl); exact ⟨b', u', e, y1, y2.other (fun eb => (H1.h78 (by simpa using hl) (by simp [hp])).symm (by rw [e, eb])) _, fun h9 => y3 (by simpa using h9)⟩
        · exact fun _ => ⟨b, _, rfl, x1, x2.set _, fun _ => rfl⟩
        · exact fun hl hl2 => H1.h78 (by simpa using hl) (by simpa using hl2)
        · exact fun hl => by have := H1.h9 (by simpa using hl); simp [this]
        · exact fun _ => by simp [hp]

end Go.Proofs.YtlcgimeebhoefaaDoor.PFnExactIdleStones
