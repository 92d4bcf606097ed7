/- slices.DeleteFunc at the lists of numbers of this program: the contract of the library. No condition. -/
import Derived.Shelf.SlicesE.DeleteFunc
import Derived.Test.YtbboihodikhhkaaProg
namespace Go.Proofs
open Go.Shelf
def Try.lDeleteFunc_ren : Go.Shelf.Ren := ⟨fun | 10 => 87 | 6 => 94 | n => n, fun | 22 => 39 | 23 => 2 | 25 => 61 | 3 => 3 | 4 => 4 | 0 => 0 | n => n, fun | n => n⟩
theorem Try.lDeleteFunc : Go.Proofs.SlLaysH.n10 Try.prog Try.lDeleteFunc_ren := {
  mixed := by kernel_rfl
  f6 := ⟨Try.f94.name, by decide, Try.func94.trans (congrArg some (by kernel_rfl))⟩
  f10 := ⟨Try.f87.name, by decide, Try.func87.trans (congrArg some (by kernel_rfl))⟩
  t0 := Try.underlying0
  a0 := Try.isAgg0
  z0 := Try.sizeOf0
  v0 := Try.zeroValue0
  t3 := Try.underlying3
  a3 := Try.isAgg3
  z3 := Try.sizeOf3
  v3 := Try.zeroValue3
  t4 := Try.underlying4
  a4 := Try.isAgg4
  z4 := Try.sizeOf4
  v4 := Try.zeroValue4
  t22 := Try.underlying39
  a22 := Try.isAgg39
  z22 := Try.sizeOf39
  v22 := Try.zeroValue39
  a23 := Try.isAgg2
  z23 := Try.sizeOf2
  t25 := Try.underlying61
  a25 := Try.isAgg61
  z25 := Try.sizeOf61
  v25 := Try.zeroValue61 }
end Go.Proofs
