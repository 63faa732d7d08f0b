/- Layings of the library's own functions at this seat's numbers. No condition. -/
import Derived.Shelf.Bytes.Write
import Derived.Shelf.Bytes.Bytes
import Derived.Test.YtannkgglgmbkdaaDoorProg
namespace Go.Proofs.YtannkgglgmbkdaaDoor
set_option linter.unusedVariables false
set_option linter.unusedSimpArgs false
set_option linter.unusedVariables false
open Go.Shelf
def layBufWrite_ren : Go.Shelf.Ren := ⟨fun | 180 => 49 | 181 => 56 | 184 => 57 | 251 => 54 | 252 => 55 | 290 => 58 | 324 => 59 | n => n, fun | 0 => 0 | 3 => 3 | 4 => 4 | 5 => 5 | 9 => 9 | 20 => 20 | 37 => 40 | 75 => 106 | 80 => 118 | 91 => 102 | 93 => 104 | 130 => 114 | 131 => 78 | n => n, fun | 14 => 0 | n => n⟩
theorem layBufWrite : LaysM.n180 Tryd.prog layBufWrite_ren := {
  mixed := by kernel_rfl
  f180 := Tryd.func49.trans (congrArg some (by kernel_rfl))
  f181 := Tryd.func56.trans (congrArg some (by kernel_rfl))
  f184 := Tryd.func57.trans (congrArg some (by kernel_rfl))
  f251 := Tryd.func54.trans (congrArg some (by kernel_rfl))
  f252 := Tryd.func55.trans (congrArg some (by kernel_rfl))
  f290 := Tryd.func58.trans (congrArg some (by kernel_rfl))
  f324 := Tryd.func59.trans (congrArg some (by kernel_rfl))
  t0 := Tryd.underlying0
  a0 := Tryd.isAgg0
  z0 := Tryd.sizeOf0
  v0 := Tryd.zeroValue0
  t3 := Tryd.underlying3
  a3 := Tryd.isAgg3
  z3 := Tryd.sizeOf3
  v3 := Tryd.zeroValue3
  t4 := Tryd.underlying4
  a4 := Tryd.isAgg4
  z4 := Tryd.sizeOf4
  v4 := Tryd.zeroValue4
  t20 := Tryd.underlying20
  a20 := Tryd.isAgg20
  z20 := Tryd.sizeOf20
  v20 := Tryd.zeroValue20
  t37 := Tryd.underlying40
  a37 := Tryd.isAgg40
  z37 := Tryd.sizeOf40
  v37 := Tryd.zeroValue40
  t75 := Tryd.underlying106
  a75 := Tryd.isAgg106
  z75 := Tryd.sizeOf106
  v75 := Tryd.zeroValue106
  t91 := Tryd.underlying102
  a91 := Tryd.isAgg102
  z91 := Tryd.sizeOf102
  v91 := Tryd.zeroValue102
  t93 := Tryd.underlying104
  a93 := Tryd.isAgg104
  z93 := Tryd.sizeOf104
  v93 := Tryd.zeroValue104
  t130 := Tryd.underlying114
  a130 := Tryd.isAgg114
  z130 := Tryd.sizeOf114
  v130 := Tryd.zeroValue114
  t131 := Tryd.underlying78
  a131 := Tryd.isAgg78
  z131 := Tryd.sizeOf78
  v131 := Tryd.zeroValue78
  g14 := by kernel_rfl
  t5 := Tryd.underlying5
  a5 := Tryd.isAgg5
  z5 := Tryd.sizeOf5
  v5 := Tryd.zeroValue5
  t9 := Tryd.underlying9
  a9 := Tryd.isAgg9
  z9 := Tryd.sizeOf9
  v9 := Tryd.zeroValue9
  t80 := Tryd.underlying118
  a80 := Tryd.isAgg118
  z80 := Tryd.sizeOf118
  v80 := Tryd.zeroValue118
  i0 := by kernel_rfl
  i3 := by kernel_rfl
  i4 := by kernel_rfl
  i5 := by kernel_rfl
  i9 := by kernel_rfl
  i20 := by kernel_rfl
  i37 := by kernel_rfl
  i75 := by kernel_rfl
  i80 := by kernel_rfl
  i91 := by kernel_rfl
  i93 := by kernel_rfl
  i130 := by kernel_rfl
  i131 := by kernel_rfl
  m14 := by kernel_rfl }
def layBufBytes_ren : Go.Shelf.Ren := ⟨fun | 183 => 50 | n => n, fun | 0 => 0 | 3 => 3 | 5 => 5 | 37 => 40 | 91 => 102 | 93 => 104 | 130 => 114 | n => n, fun n => n⟩
theorem layBufBytes : LaysM.n183 Tryd.prog layBufBytes_ren := {
  mixed := by kernel_rfl
  f183 := Tryd.func50.trans (congrArg some (by kernel_rfl))
  t0 := Tryd.underlying0
  a0 := Tryd.isAgg0
  z0 := Tryd.sizeOf0
  v0 := Tryd.zeroValue0
  t3 := Tryd.underlying3
  a3 := Tryd.isAgg3
  z3 := Tryd.sizeOf3
  v3 := Tryd.zeroValue3
  t37 := Tryd.underlying40
  a37 := Tryd.isAgg40
  z37 := Tryd.sizeOf40
  v37 := Tryd.zeroValue40
  t93 := Tryd.underlying104
  a93 := Tryd.isAgg104
  z93 := Tryd.sizeOf104
  v93 := Tryd.zeroValue104
  t130 := Tryd.underlying114
  a130 := Tryd.isAgg114
  z130 := Tryd.sizeOf114
  v130 := Tryd.zeroValue114
  t5 := Tryd.underlying5
  a5 := Tryd.isAgg5
  z5 := Tryd.sizeOf5
  v5 := Tryd.zeroValue5
  t91 := Tryd.underlying102
  a91 := Tryd.isAgg102
  z91 := Tryd.sizeOf102
  v91 := Tryd.zeroValue102
  i0 := by kernel_rfl
  i3 := by kernel_rfl
  i5 := by kernel_rfl
  i37 := by kernel_rfl
  i91 := by kernel_rfl
  i93 := by kernel_rfl
  i130 := by kernel_rfl }
end Go.Proofs.YtannkgglgmbkdaaDoor
