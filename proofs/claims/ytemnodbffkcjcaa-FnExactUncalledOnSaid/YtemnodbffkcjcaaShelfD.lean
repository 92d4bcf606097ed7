/- slices.DeleteFunc at the lists of numbers of this program: the contract of the library. No condition. -/
import Derived.Shelf.SlicesE.DeleteFunc
import Derived.Test.YtemnodbffkcjcaaProg
namespace Go.Proofs
open Go.Shelf
def Try.lDeleteFunc_ren : Go.Shelf.Ren := ⟨fun | 10 => 91 | 6 => 103 | n => n, fun | 22 => 34 | 23 => 2 | 25 => 86 | 3 => 3 | 4 => 4 | 0 => 0 | n => n, fun | n => n⟩
theorem Try.lDeleteFunc : Go.Proofs.SlLaysH.n10 Try.prog Try.lDeleteFunc_ren := {
  mixed := by kernel_rfl
  f6 := ⟨Try.f103.name, by decide, Try.func103.trans (congrArg some (by kernel_rfl))⟩
  f10 := ⟨Try.f91.name, by decide, Try.func91.trans (congrArg some (by kernel_rfl))⟩
  t0 := Try.underlying0
  a0 := Try.isAgg0
  z0 := Try.sizeOf0
  v0 := Try.zeroValue0
  t3 := Try.underlying3
  a3 := Try.isAgg3
  z3 := Try.sizeOf3
  v3 := Try.zeroValue3
  t4 := Try.underlying4
  a4 := Try.isAgg4
  z4 := Try.sizeOf4
  v4 := Try.zeroValue4
  t22 := Try.underlying34
  a22 := Try.isAgg34
  z22 := Try.sizeOf34
  v22 := Try.zeroValue34
  a23 := Try.isAgg2
  z23 := Try.sizeOf2
  t25 := Try.underlying86
  a25 := Try.isAgg86
  z25 := Try.sizeOf86
  v25 := Try.zeroValue86 }
end Go.Proofs
