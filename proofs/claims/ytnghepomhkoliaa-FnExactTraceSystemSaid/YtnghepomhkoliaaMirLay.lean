/- The contract of slices.Reverse, proved once in the library, laid at this program. -/
import Derived.Shelf.SlicesE.Reverse
import Derived.Test.YtnghepomhkoliaaProg
namespace Go.Proofs
open Go.Shelf
def Try.lays75_ren : Go.Shelf.Ren := ⟨fun | 35 => 75 | n => n, fun | 22 => 66 | 23 => 5 | 3 => 3 | 4 => 4 | 0 => 0 | n => n, fun | n => n⟩
theorem Try.lays75 : Go.Proofs.SlLaysE.n35 Try.prog Try.lays75_ren := {
  mixed := by kernel_rfl
  f35 := ⟨Try.f75.name, by decide, Try.func75.trans (congrArg some (by kernel_rfl))⟩
  t0 := Try.underlying0
  a0 := Try.isAgg0
  z0 := Try.sizeOf0
  v0 := Try.zeroValue0
  t3 := Try.underlying3
  a3 := Try.isAgg3
  z3 := Try.sizeOf3
  v3 := Try.zeroValue3
  t4 := Try.underlying4
  a4 := Try.isAgg4
  z4 := Try.sizeOf4
  v4 := Try.zeroValue4
  t22 := Try.underlying66
  a22 := Try.isAgg66
  z22 := Try.sizeOf66
  v22 := Try.zeroValue66
  a23 := Try.isAgg5
  z23 := Try.sizeOf5 }
end Go.Proofs
