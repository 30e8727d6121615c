/-
  The library's functions that the shelf has, found in this program. No condition.
-/
import Derived.Shelf.Spec.DecodeRune
import Derived.Test.YtlpnnnmdkglkcaaDoorProg
namespace Go.Proofs.YtlpnnnmdkglkcaaDoor
def laysDecode_ren : Go.Shelf.Ren := ⟨fun | 32 => 85 | 49 => 105 | n => n, fun | 30 => 123 | 21 => 21 | 3 => 3 | 0 => 0 | 5 => 5 | 4 => 4 | 33 => 133 | 66 => 100 | 25 => 104 | 69 => 103 | 68 => 102 | n => n, fun | 2 => 0 | 3 => 1 | n => n⟩
theorem laysDecode : Go.Proofs.Lays7.n32 Tryd.prog laysDecode_ren := {
  mixed := by kernel_rfl
  f32 := Tryd.func85.trans (congrArg some (by kernel_rfl))
  f49 := Tryd.func105.trans (congrArg some (by kernel_rfl))
  t0 := Tryd.underlying0
  a0 := Tryd.isAgg0
  z0 := Tryd.sizeOf0
  v0 := Tryd.zeroValue0
  i0 := by kernel_rfl
  t3 := Tryd.underlying3
  a3 := Tryd.isAgg3
  z3 := Tryd.sizeOf3
  v3 := Tryd.zeroValue3
  i3 := by kernel_rfl
  t4 := Tryd.underlying4
  a4 := Tryd.isAgg4
  z4 := Tryd.sizeOf4
  v4 := Tryd.zeroValue4
  i4 := by kernel_rfl
  t5 := Tryd.underlying5
  a5 := Tryd.isAgg5
  z5 := Tryd.sizeOf5
  v5 := Tryd.zeroValue5
  i5 := by kernel_rfl
  t21 := Tryd.underlying21
  a21 := Tryd.isAgg21
  z21 := Tryd.sizeOf21
  v21 := Tryd.zeroValue21
  i21 := by kernel_rfl
  t25 := Tryd.underlying104
  a25 := Tryd.isAgg104
  z25 := Tryd.sizeOf104
  v25 := Tryd.zeroValue104
  i25 := by kernel_rfl
  t30 := Tryd.underlying123
  a30 := Tryd.isAgg123
  z30 := Tryd.sizeOf123
  v30 := Tryd.zeroValue123
  i30 := by kernel_rfl
  t33 := Tryd.underlying133
  a33 := Tryd.isAgg133
  z33 := Tryd.sizeOf133
  v33 := Tryd.zeroValue133
  i33 := by kernel_rfl
  t66 := Tryd.underlying100
  a66 := Tryd.isAgg100
  z66 := Tryd.sizeOf100
  t68 := Tryd.underlying102
  a68 := Tryd.isAgg102
  z68 := Tryd.sizeOf102
  v68 := Tryd.zeroValue102
  i68 := by kernel_rfl
  t69 := Tryd.underlying103
  a69 := Tryd.isAgg103
  z69 := Tryd.sizeOf103
  v69 := Tryd.zeroValue103
  i69 := by kernel_rfl
  g2 := by kernel_rfl
  g3 := by kernel_rfl }

end Go.Proofs.YtlpnnnmdkglkcaaDoor

