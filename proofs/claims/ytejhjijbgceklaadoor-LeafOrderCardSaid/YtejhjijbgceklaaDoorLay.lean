/-
 The sorts of the library, as this program bears them; printed by a tool of the kit.
-/
import Derived.Shelf.SlSortCmp.NoneTotal
import Derived.Test.YtejhjijbgceklaaDoorProg
namespace Go.Proofs.YtejhjijbgceklaaDoor
open Go.Shelf
def srt_string_ren : Go.Shelf.Ren := ⟨fun | 6 => 98 | 15 => 106 | 14 => 105 | 28 => 115 | 29 => 116 | 20 => 107 | 21 => 108 | 22 => 109 | 23 => 110 | 24 => 111 | 25 => 112 | 26 => 113 | 27 => 114 | 46 => 117 | 47 => 118 | 48 => 119 | 49 => 120 | 50 => 121 | 57 => 122 | n => n, fun | 22 => 56 | 24 => 9 | 25 => 109 | 3 => 3 | 39 => 164 | 0 => 0 | 53 => 173 | 55 => 175 | 4 => 4 | 46 => 167 | 45 => 166 | 50 => 158 | 5 => 5 | 9 => 9 | 66 => 176 | 70 => 180 | 76 => 182 | 77 => 183 | n => n, fun | n => n⟩
theorem srt_string : Go.Proofs.SlLaysF0.n6 Tryd.prog srt_string_ren := {
 mixed := by kernel_rfl
 f6 := ⟨Tryd.f98.name, by decide, Tryd.func98.trans (congrArg some (by kernel_rfl))⟩
 f14 := ⟨Tryd.f105.name, by decide, Tryd.func105.trans (congrArg some (by kernel_rfl))⟩
 f15 := Tryd.func106.trans (congrArg some (by kernel_rfl))
 f20 := ⟨Tryd.f107.name, by decide, Tryd.func107.trans (congrArg some (by kernel_rfl))⟩
 f21 := ⟨Tryd.f108.name, by decide, Tryd.func108.trans (congrArg some (by kernel_rfl))⟩
 f22 := ⟨Tryd.f109.name, by decide, Tryd.func109.trans (congrArg some (by kernel_rfl))⟩
 f23 := ⟨Tryd.f110.name, by decide, Tryd.func110.trans (congrArg some (by kernel_rfl))⟩
 f24 := ⟨Tryd.f111.name, by decide, Tryd.func111.trans (congrArg some (by kernel_rfl))⟩
 f25 := ⟨Tryd.f112.name, by decide, Tryd.func112.trans (congrArg some (by kernel_rfl))⟩
 f26 := ⟨Tryd.f113.name, by decide, Tryd.func113.trans (congrArg some (by kernel_rfl))⟩
 f27 := ⟨Tryd.f114.name, by decide, Tryd.func114.trans (congrArg some (by kernel_rfl))⟩
 f28 := Tryd.func115.trans (congrArg some (by kernel_rfl))
 f29 := Tryd.func116.trans (congrArg some (by kernel_rfl))
 f46 := ⟨Tryd.f117.name, by decide, Tryd.func117.trans (congrArg some (by kernel_rfl))⟩
 f47 := Tryd.func118.trans (congrArg some (by kernel_rfl))
 f48 := Tryd.func119.trans (congrArg some (by kernel_rfl))
 f49 := ⟨Tryd.f120.name, by decide, Tryd.func120.trans (congrArg some (by kernel_rfl))⟩
 f50 := ⟨Tryd.f121.name, by decide, Tryd.func121.trans (congrArg some (by kernel_rfl))⟩
 f57 := ⟨Tryd.f122.name, by decide, Tryd.func122.trans (congrArg some (by kernel_rfl))⟩
 t0 := Tryd.underlying0
 a0 := Tryd.isAgg0
 z0 := Tryd.sizeOf0
 v0 := Tryd.zeroValue0
 t3 := Tryd.underlying3
 a3 := Tryd.isAgg3
 z3 := Tryd.sizeOf3
 v3 := Tryd.zeroValue3
 t4 := Tryd.underlying4
 a4 := Tryd.isAgg4
 z4 := Tryd.sizeOf4
 v4 := Tryd.zeroValue4
 t5 := Tryd.underlying5
 a5 := Tryd.isAgg5
 z5 := Tryd.sizeOf5
 v5 := Tryd.zeroValue5
 t9 := Tryd.underlying9
 a9 := Tryd.isAgg9
 z9 := Tryd.sizeOf9
 v9 := Tryd.zeroValue9
 t22 := Tryd.underlying56
 a22 := Tryd.isAgg56
 z22 := Tryd.sizeOf56
 v22 := Tryd.zeroValue56
 t25 := Tryd.underlying109
 a25 := Tryd.isAgg109
 z25 := Tryd.sizeOf109
 v25 := Tryd.zeroValue109
 t39 := Tryd.underlying164
 a39 := Tryd.isAgg164
 z39 := Tryd.sizeOf164
 v39 := Tryd.zeroValue164
 t45 := Tryd.underlying166
 a45 := Tryd.isAgg166
 z45 := Tryd.sizeOf166
 v45 := Tryd.zeroValue166
 t46 := Tryd.underlying167
 a46 := Tryd.isAgg167
 z46 := Tryd.sizeOf167
 v46 := Tryd.zeroValue167
 t50 := Tryd.underlying158
 a50 := Tryd.isAgg158
 z50 := Tryd.sizeOf158
 v50 := Tryd.zeroValue158
 t53 := Tryd.underlying173
 a53 := Tryd.isAgg173
 z53 := Tryd.sizeOf173
 v53 := Tryd.zeroValue173
 t55 := Tryd.underlying175
 a55 := Tryd.isAgg175
 z55 := Tryd.sizeOf175
 v55 := Tryd.zeroValue175
 t66 := Tryd.underlying176
 a66 := Tryd.isAgg176
 z66 := Tryd.sizeOf176
 v66 := Tryd.zeroValue176
 t70 := Tryd.underlying180
 a70 := Tryd.isAgg180
 z70 := Tryd.sizeOf180
 v70 := Tryd.zeroValue180
 t76 := Tryd.underlying182
 a76 := Tryd.isAgg182
 z76 := Tryd.sizeOf182
 v76 := Tryd.zeroValue182
 t77 := Tryd.underlying183
 a77 := Tryd.isAgg183
 z77 := Tryd.sizeOf183
 v77 := Tryd.zeroValue183 }
end Go.Proofs.YtejhjijbgceklaaDoor
