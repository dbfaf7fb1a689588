/-
  The sorts of the library, as this program bears them; printed by a tool of the kit.
-/
import Derived.Shelf.SlSortCmp.NoneTotal
import Derived.Test.YtjjklfgpffgnfaaDoorProg
namespace Go.Proofs.YtjjklfgpffgnfaaDoor
open Go.Shelf
def srt_line_ren : Go.Shelf.Ren := ⟨fun | 6 => 70 | 15 => 98 | 14 => 97 | 28 => 121 | 29 => 122 | 20 => 113 | 21 => 114 | 22 => 115 | 23 => 116 | 24 => 117 | 25 => 118 | 26 => 119 | 27 => 120 | 46 => 135 | 47 => 136 | 48 => 137 | 49 => 138 | 50 => 139 | 57 => 143 | n => n, fun | 22 => 138 | 24 => 99 | 25 => 142 | 3 => 3 | 39 => 174 | 0 => 0 | 53 => 199 | 55 => 201 | 4 => 4 | 46 => 192 | 45 => 191 | 50 => 196 | 5 => 5 | 9 => 9 | 66 => 211 | 70 => 215 | 76 => 219 | 77 => 220 | n => n, fun | n => n⟩
def srt_Place_ren : Go.Shelf.Ren := ⟨fun | 6 => 79 | 15 => 98 | 14 => 103 | 28 => 121 | 29 => 122 | 20 => 124 | 21 => 125 | 22 => 126 | 23 => 127 | 24 => 128 | 25 => 129 | 26 => 130 | 27 => 131 | 46 => 140 | 47 => 136 | 48 => 137 | 49 => 141 | 50 => 142 | 57 => 144 | n => n, fun | 22 => 36 | 24 => 59 | 25 => 156 | 3 => 3 | 39 => 174 | 0 => 0 | 53 => 199 | 55 => 201 | 4 => 4 | 46 => 192 | 45 => 191 | 50 => 196 | 5 => 5 | 9 => 9 | 66 => 211 | 70 => 215 | 76 => 219 | 77 => 220 | n => n, fun | n => n⟩
theorem srt_Place : Go.Proofs.SlLaysF0.n6 Tryd.prog srt_Place_ren := {
  mixed := by kernel_rfl
  f6 := ⟨Tryd.f79.name, by decide, Tryd.func79.trans (congrArg some (by kernel_rfl))⟩
  f14 := ⟨Tryd.f103.name, by decide, Tryd.func103.trans (congrArg some (by kernel_rfl))⟩
  f15 := Tryd.func98.trans (congrArg some (by kernel_rfl))
  f20 := ⟨Tryd.f124.name, by decide, Tryd.func124.trans (congrArg some (by kernel_rfl))⟩
  f21 := ⟨Tryd.f125.name, by decide, Tryd.func125.trans (congrArg some (by kernel_rfl))⟩
  f22 := ⟨Tryd.f126.name, by decide, Tryd.func126.trans (congrArg some (by kernel_rfl))⟩
  f23 := ⟨Tryd.f127.name, by decide, Tryd.func127.trans (congrArg some (by kernel_rfl))⟩
  f24 := ⟨Tryd.f128.name, by decide, Tryd.func128.trans (congrArg some (by kernel_rfl))⟩
  f25 := ⟨Tryd.f129.name, by decide, Tryd.func129.trans (congrArg some (by kernel_rfl))⟩
  f26 := ⟨Tryd.f130.name, by decide, Tryd.func130.trans (congrArg some (by kernel_rfl))⟩
  f27 := ⟨Tryd.f131.name, by decide, Tryd.func131.trans (congrArg some (by kernel_rfl))⟩
  f28 := Tryd.func121.trans (congrArg some (by kernel_rfl))
  f29 := Tryd.func122.trans (congrArg some (by kernel_rfl))
  f46 := ⟨Tryd.f140.name, by decide, Tryd.func140.trans (congrArg some (by kernel_rfl))⟩
  f47 := Tryd.func136.trans (congrArg some (by kernel_rfl))
  f48 := Tryd.func137.trans (congrArg some (by kernel_rfl))
  f49 := ⟨Tryd.f141.name, by decide, Tryd.func141.trans (congrArg some (by kernel_rfl))⟩
  f50 := ⟨Tryd.f142.name, by decide, Tryd.func142.trans (congrArg some (by kernel_rfl))⟩
  f57 := ⟨Tryd.f144.name, by decide, Tryd.func144.trans (congrArg some (by kernel_rfl))⟩
  t0 := Tryd.underlying0
  a0 := Tryd.isAgg0
  z0 := Tryd.sizeOf0
  v0 := Tryd.zeroValue0
  t3 := Tryd.underlying3
  a3 := Tryd.isAgg3
  z3 := Tryd.sizeOf3
  v3 := Tryd.zeroValue3
  t4 := Tryd.underlying4
  a4 := Tryd.isAgg4
  z4 := Tryd.sizeOf4
  v4 := Tryd.zeroValue4
  t5 := Tryd.underlying5
  a5 := Tryd.isAgg5
  z5 := Tryd.sizeOf5
  v5 := Tryd.zeroValue5
  t9 := Tryd.underlying9
  a9 := Tryd.isAgg9
  z9 := Tryd.sizeOf9
  v9 := Tryd.zeroValue9
  t22 := Tryd.underlying36
  a22 := Tryd.isAgg36
  z22 := Tryd.sizeOf36
  v22 := Tryd.zeroValue36
  t25 := Tryd.underlying156
  a25 := Tryd.isAgg156
  z25 := Tryd.sizeOf156
  v25 := Tryd.zeroValue156
  t39 := Tryd.underlying174
  a39 := Tryd.isAgg174
  z39 := Tryd.sizeOf174
  v39 := Tryd.zeroValue174
  t45 := Tryd.underlying191
  a45 := Tryd.isAgg191
  z45 := Tryd.sizeOf191
  v45 := Tryd.zeroValue191
  t46 := Tryd.underlying192
  a46 := Tryd.isAgg192
  z46 := Tryd.sizeOf192
  v46 := Tryd.zeroValue192
  t50 := Tryd.underlying196
  a50 := Tryd.isAgg196
  z50 := Tryd.sizeOf196
  v50 := Tryd.zeroValue196
  t53 := Tryd.underlying199
  a53 := Tryd.isAgg199
  z53 := Tryd.sizeOf199
  v53 := Tryd.zeroValue199
  t55 := Tryd.underlying201
  a55 := Tryd.isAgg201
  z55 := Tryd.sizeOf201
  v55 := Tryd.zeroValue201
  t66 := Tryd.underlying211
  a66 := Tryd.isAgg211
  z66 := Tryd.sizeOf211
  v66 := Tryd.zeroValue211
  t70 := Tryd.underlying215
  a70 := Tryd.isAgg215
  z70 := Tryd.sizeOf215
  v70 := Tryd.zeroValue215
  t76 := Tryd.underlying219
  a76 := Tryd.isAgg219
  z76 := Tryd.sizeOf219
  v76 := Tryd.zeroValue219
  t77 := Tryd.underlying220
  a77 := Tryd.isAgg220
  z77 := Tryd.sizeOf220
  v77 := Tryd.zeroValue220 }
end Go.Proofs.YtjjklfgpffgnfaaDoor
