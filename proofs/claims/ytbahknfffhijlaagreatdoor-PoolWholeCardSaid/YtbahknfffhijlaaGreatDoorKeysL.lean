/- maps.Keys, slices.Sorted: the library's bodies, laid at this seat. -/
import Derived.Test.YtbahknfffhijlaaGreatDoorBase
import Derived.Shelf.SlIterI.Sorted
namespace Go.Proofs
open Go.Shelf
set_option maxRecDepth 100000
def Tryz.keysL_ren : Go.Shelf.Ren := ⟨fun | 7 => 26 | 10 => 54 | n => n, fun | 23 => 62 | 26 => 3 | 3 => 31 | 28 => 68 | 0 => 0 | 27 => 67 | 33 => 72 | 4 => 4 | n => n, fun | n => n⟩
theorem Tryz.keysL : Go.Proofs.SlLaysZI.n7 Tryz.prog Tryz.keysL_ren := {
  mixed := by kernel_rfl,
  f7 := ⟨Tryz.f26.name, by decide, Tryz.func26.trans (congrArg some (by kernel_rfl))⟩,
  f10 := ⟨Tryz.f54.name, by decide, Tryz.func54.trans (congrArg some (by kernel_rfl))⟩,
  t0 := Tryz.underlying0,
  a0 := Tryz.isAgg0,
  z0 := Tryz.sizeOf0,
  v0 := Tryz.zeroValue0,
  t4 := Tryz.underlying4,
  a4 := Tryz.isAgg4,
  z4 := Tryz.sizeOf4,
  v4 := Tryz.zeroValue4,
  t23 := Tryz.underlying62,
  a23 := Tryz.isAgg62,
  z23 := Tryz.sizeOf62,
  v23 := Tryz.zeroValue62,
  t26 := Tryz.underlying3,
  a26 := Tryz.isAgg3,
  z26 := Tryz.sizeOf3,
  v26 := Tryz.zeroValue3,
  t27 := Tryz.underlying67,
  a27 := Tryz.isAgg67,
  z27 := Tryz.sizeOf67,
  v27 := Tryz.zeroValue67,
  t28 := Tryz.underlying68,
  a28 := Tryz.isAgg68,
  z28 := Tryz.sizeOf68,
  v28 := Tryz.zeroValue68,
  t33 := Tryz.underlying72,
  a33 := Tryz.isAgg72,
  z33 := Tryz.sizeOf72,
  v33 := Tryz.zeroValue72 }
def Tryz.sortedL_ren : Go.Shelf.Ren := ⟨fun | 6 => 24 | 8 => 51 | 9 => 52 | 11 => 80 | 13 => 82 | 12 => 81 | 23 => 114 | 24 => 115 | 14 => 105 | 15 => 106 | 16 => 107 | 17 => 108 | 18 => 109 | 19 => 110 | 20 => 111 | 21 => 112 | 22 => 113 | 25 => 136 | 26 => 137 | 27 => 138 | 28 => 139 | 29 => 140 | 30 => 141 | 31 => 147 | n => n, fun | 26 => 3 | 28 => 68 | 24 => 31 | 0 => 0 | 3 => 3 | 37 => 133 | 48 => 171 | 50 => 173 | 4 => 4 | 40 => 163 | 39 => 162 | 45 => 168 | 5 => 5 | 9 => 9 | 51 => 190 | 55 => 194 | 57 => 205 | 58 => 206 | 33 => 72 | n => n, fun | n => n⟩
theorem Tryz.sortedL : Go.Proofs.SlLaysZI.n6 Tryz.prog Tryz.sortedL_ren := {
  mixed := by kernel_rfl,
  f6 := ⟨Tryz.f24.name, by decide, Tryz.func24.trans (congrArg some (by kernel_rfl))⟩,
  f8 := ⟨Tryz.f51.name, by decide, Tryz.func51.trans (congrArg some (by kernel_rfl))⟩,
  f11 := ⟨Tryz.f80.name, by decide, Tryz.func80.trans (congrArg some (by kernel_rfl))⟩,
  t0 := Tryz.underlying0,
  a0 := Tryz.isAgg0,
  z0 := Tryz.sizeOf0,
  v0 := Tryz.zeroValue0,
  t24 := Tryz.underlying31,
  a24 := Tryz.isAgg31,
  z24 := Tryz.sizeOf31,
  v24 := Tryz.zeroValue31,
  t26 := Tryz.underlying3,
  a26 := Tryz.isAgg3,
  z26 := Tryz.sizeOf3,
  v26 := Tryz.zeroValue3,
  t28 := Tryz.underlying68,
  a28 := Tryz.isAgg68,
  z28 := Tryz.sizeOf68,
  v28 := Tryz.zeroValue68,
  i26 := by kernel_rfl }
end Go.Proofs
