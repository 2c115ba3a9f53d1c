/- maps.Clone of the jobs, laid at this program (as the kit's lay-plain.mjs prints it). -/
import Derived.Shelf.SlMaps.Clone
import Derived.Ground.SlmcProg
import Derived.Test.YtlhbnndnkcpomaaDoorProg
namespace Go.Proofs
open Go.Shelf
def Tryd.cloneJ_ren : Go.Shelf.Ren := ⟨fun | 5 => 57 | 7 => 82 | n => n, fun | 23 => 100 | 25 => 3 | 3 => 105 | 4 => 4 | 20 => 20 | n => n, fun | n => n⟩
theorem Tryd.cloneJ : Go.Proofs.SlLaysW.n5 Tryd.prog Tryd.cloneJ_ren := {
  mixed := by kernel_rfl
  f5 := ⟨Tryd.f57.name, by decide, Tryd.func57.trans (congrArg some (by kernel_rfl))⟩
  f7 := Tryd.func82.trans (congrArg some (by kernel_rfl))
  t4 := Tryd.underlying4
  a4 := Tryd.isAgg4
  z4 := Tryd.sizeOf4
  v4 := Tryd.zeroValue4
  t20 := Tryd.underlying20
  a20 := Tryd.isAgg20
  z20 := Tryd.sizeOf20
  v20 := Tryd.zeroValue20
  t23 := Tryd.underlying100
  a23 := Tryd.isAgg100
  z23 := Tryd.sizeOf100
  v23 := Tryd.zeroValue100 }
end Go.Proofs
