/- Contracts of the shelf laid at this seat's program, in plain words. Conditions: those that each theorem states. -/
import Derived.Shelf.SlicesE.Reverse
import Derived.Test.YtlfhagdhpgmlpaaDoorProg
namespace Go.Proofs
open Go.Shelf
def Tryd.laysRev_ren : Go.Shelf.Ren := ⟨fun | 35 => 17 | n => n, fun | 22 => 48 | 23 => 5 | 3 => 3 | 4 => 4 | 0 => 0 | n => n, fun | n => n⟩
theorem Tryd.laysRev : Go.Proofs.SlLaysE.n35 Tryd.prog Tryd.laysRev_ren := {
  mixed := by kernel_rfl
  f35 := ⟨Tryd.f17.name, by decide, Tryd.func17.trans (congrArg some (by kernel_rfl))⟩
  t0 := Tryd.underlying0
  a0 := Tryd.isAgg0
  z0 := Tryd.sizeOf0
  v0 := Tryd.zeroValue0
  t3 := Tryd.underlying3
  a3 := Tryd.isAgg3
  z3 := Tryd.sizeOf3
  v3 := Tryd.zeroValue3
  t4 := Tryd.underlying4
  a4 := Tryd.isAgg4
  z4 := Tryd.sizeOf4
  v4 := Tryd.zeroValue4
  t22 := Tryd.underlying48
  a22 := Tryd.isAgg48
  z22 := Tryd.sizeOf48
  v22 := Tryd.zeroValue48
  a23 := Tryd.isAgg5
  z23 := Tryd.sizeOf5 }
end Go.Proofs
