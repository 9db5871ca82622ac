/-
  strings.Trim by its contract of the library, at this dump.
-/
import Derived.Shelf.Strings.SlTrimAscii
import Derived.Test.YtcgpfllkbflbhaaDoorProg
namespace Go.Proofs
open Go.Shelf
def Tryd.lays160_ren : Go.Shelf.Ren := ⟨fun | 160 => 126 | 232 => 131 | 231 => 130 | 227 => 132 | 234 => 134 | 233 => 133 | 236 => 136 | 235 => 135 | 228 => 138 | 271 => 141 | 151 => 140 | 197 => 139 | 120 => 144 | 152 => 143 | 260 => 142 | 137 => 145 | 119 => 146 | 224 => 147 | 225 => 148 | 217 => 149 | 266 => 150 | n => n, fun | 9 => 9 | 4 => 4 | 3 => 3 | 5 => 5 | 117 => 176 | 116 => 175 | 0 => 0 | 124 => 179 | 21 => 21 | 105 => 182 | 46 => 61 | 119 => 186 | 139 => 189 | 138 => 188 | n => n, fun | 3 => 0 | 4 => 1 | n => n⟩
theorem Tryd.lays160 : Go.Proofs.Lays.n160 Tryd.prog Tryd.lays160_ren := {
  mixed := by kernel_rfl
  f119 := Tryd.func146.trans (congrArg some (by kernel_rfl))
  f120 := Tryd.func144.trans (congrArg some (by kernel_rfl))
  f137 := Tryd.func145.trans (congrArg some (by kernel_rfl))
  f151 := Tryd.func140.trans (congrArg some (by kernel_rfl))
  f152 := Tryd.func143.trans (congrArg some (by kernel_rfl))
  f160 := Tryd.func126.trans (congrArg some (by kernel_rfl))
  f197 := Tryd.func139.trans (congrArg some (by kernel_rfl))
  f217 := Tryd.func149.trans (congrArg some (by kernel_rfl))
  f224 := Tryd.func147.trans (congrArg some (by kernel_rfl))
  f225 := Tryd.func148.trans (congrArg some (by kernel_rfl))
  f227 := Tryd.func132.trans (congrArg some (by kernel_rfl))
  f228 := Tryd.func138.trans (congrArg some (by kernel_rfl))
  f231 := Tryd.func130.trans (congrArg some (by kernel_rfl))
  f232 := Tryd.func131.trans (congrArg some (by kernel_rfl))
  f233 := Tryd.func133.trans (congrArg some (by kernel_rfl))
  f234 := Tryd.func134.trans (congrArg some (by kernel_rfl))
  f235 := Tryd.func135.trans (congrArg some (by kernel_rfl))
  f236 := Tryd.func136.trans (congrArg some (by kernel_rfl))
  f260 := Tryd.func142.trans (congrArg some (by kernel_rfl))
  f266 := Tryd.func150.trans (congrArg some (by kernel_rfl))
  f271 := Tryd.func141.trans (congrArg some (by kernel_rfl))
  t0 := Tryd.underlying0
  a0 := Tryd.isAgg0
  z0 := Tryd.sizeOf0
  v0 := Tryd.zeroValue0
  t3 := Tryd.underlying3
  a3 := Tryd.isAgg3
  z3 := Tryd.sizeOf3
  v3 := Tryd.zeroValue3
  t4 := Tryd.underlying4
  a4 := Tryd.isAgg4
  z4 := Tryd.sizeOf4
  v4 := Tryd.zeroValue4
  t5 := Tryd.underlying5
  a5 := Tryd.isAgg5
  z5 := Tryd.sizeOf5
  v5 := Tryd.zeroValue5
  t9 := Tryd.underlying9
  a9 := Tryd.isAgg9
  z9 := Tryd.sizeOf9
  v9 := Tryd.zeroValue9
  t21 := Tryd.underlying21
  a21 := Tryd.isAgg21
  z21 := Tryd.sizeOf21
  v21 := Tryd.zeroValue21
  t46 := Tryd.underlying61
  a46 := Tryd.isAgg61
  z46 := Tryd.sizeOf61
  v46 := Tryd.zeroValue61
  t105 := Tryd.underlying182
  a105 := Tryd.isAgg182
  z105 := Tryd.sizeOf182
  v105 := Tryd.zeroValue182
  t116 := Tryd.underlying175
  a116 := Tryd.isAgg175
  z116 := Tryd.sizeOf175
  t117 := Tryd.underlying176
  a117 := Tryd.isAgg176
  z117 := Tryd.sizeOf176
  v117 := Tryd.zeroValue176
  t119 := Tryd.underlying186
  a119 := Tryd.isAgg186
  z119 := Tryd.sizeOf186
  t124 := Tryd.underlying179
  a124 := Tryd.isAgg179
  z124 := Tryd.sizeOf179
  v124 := Tryd.zeroValue179
  t138 := Tryd.underlying188
  a138 := Tryd.isAgg188
  z138 := Tryd.sizeOf188
  v138 := Tryd.zeroValue188
  t139 := Tryd.underlying189
  a139 := Tryd.isAgg189
  z139 := Tryd.sizeOf189
  v139 := Tryd.zeroValue189
  g3 := by kernel_rfl
  g4 := by kernel_rfl }
end Go.Proofs
