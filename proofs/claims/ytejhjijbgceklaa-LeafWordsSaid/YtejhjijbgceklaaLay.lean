/-
 The sorts of the library, as this program bears them; printed by a tool of the kit.
-/
import Derived.Shelf.SlSortCmp.NoneTotal
import Derived.Test.YtejhjijbgceklaaProg
namespace Go.Proofs.Ytejhjijbgceklaa
open Go.Shelf
def srt_string_ren : Go.Shelf.Ren := ⟨fun | 6 => 72 | 15 => 75 | 14 => 74 | 28 => 84 | 29 => 85 | 20 => 76 | 21 => 77 | 22 => 78 | 23 => 79 | 24 => 80 | 25 => 81 | 26 => 82 | 27 => 83 | 46 => 86 | 47 => 87 | 48 => 88 | 49 => 89 | 50 => 90 | 57 => 91 | n => n, fun | 22 => 63 | 24 => 9 | 25 => 99 | 3 => 3 | 39 => 136 | 0 => 0 | 53 => 145 | 55 => 147 | 4 => 4 | 46 => 139 | 45 => 138 | 50 => 125 | 5 => 5 | 9 => 9 | 66 => 148 | 70 => 152 | 76 => 154 | 77 => 37 | n => n, fun | n => n⟩
theorem srt_string : Go.Proofs.SlLaysF0.n6 Try.prog srt_string_ren := {
 mixed := by kernel_rfl
 f6 := ⟨Try.f72.name, by decide, Try.func72.trans (congrArg some (by kernel_rfl))⟩
 f14 := ⟨Try.f74.name, by decide, Try.func74.trans (congrArg some (by kernel_rfl))⟩
 f15 := Try.func75.trans (congrArg some (by kernel_rfl))
 f20 := ⟨Try.f76.name, by decide, Try.func76.trans (congrArg some (by kernel_rfl))⟩
 f21 := ⟨Try.f77.name, by decide, Try.func77.trans (congrArg some (by kernel_rfl))⟩
 f22 := ⟨Try.f78.name, by decide, Try.func78.trans (congrArg some (by kernel_rfl))⟩
 f23 := ⟨Try.f79.name, by decide, Try.func79.trans (congrArg some (by kernel_rfl))⟩
 f24 := ⟨Try.f80.name, by decide, Try.func80.trans (congrArg some (by kernel_rfl))⟩
 f25 := ⟨Try.f81.name, by decide, Try.func81.trans (congrArg some (by kernel_rfl))⟩
 f26 := ⟨Try.f82.name, by decide, Try.func82.trans (congrArg some (by kernel_rfl))⟩
 f27 := ⟨Try.f83.name, by decide, Try.func83.trans (congrArg some (by kernel_rfl))⟩
 f28 := Try.func84.trans (congrArg some (by kernel_rfl))
 f29 := Try.func85.trans (congrArg some (by kernel_rfl))
 f46 := ⟨Try.f86.name, by decide, Try.func86.trans (congrArg some (by kernel_rfl))⟩
 f47 := Try.func87.trans (congrArg some (by kernel_rfl))
 f48 := Try.func88.trans (congrArg some (by kernel_rfl))
 f49 := ⟨Try.f89.name, by decide, Try.func89.trans (congrArg some (by kernel_rfl))⟩
 f50 := ⟨Try.f90.name, by decide, Try.func90.trans (congrArg some (by kernel_rfl))⟩
 f57 := ⟨Try.f91.name, by decide, Try.func91.trans (congrArg some (by kernel_rfl))⟩
 t0 := Try.underlying0
 a0 := Try.isAgg0
 z0 := Try.sizeOf0
 v0 := Try.zeroValue0
 t3 := Try.underlying3
 a3 := Try.isAgg3
 z3 := Try.sizeOf3
 v3 := Try.zeroValue3
 t4 := Try.underlying4
 a4 := Try.isAgg4
 z4 := Try.sizeOf4
 v4 := Try.zeroValue4
 t5 := Try.underlying5
 a5 := Try.isAgg5
 z5 := Try.sizeOf5
 v5 := Try.zeroValue5
 t9 := Try.underlying9
 a9 := Try.isAgg9
 z9 := Try.sizeOf9
 v9 := Try.zeroValue9
 t22 := Try.underlying63
 a22 := Try.isAgg63
 z22 := Try.sizeOf63
 v22 := Try.zeroValue63
 t25 := Try.underlying99
 a25 := Try.isAgg99
 z25 := Try.sizeOf99
 v25 := Try.zeroValue99
 t39 := Try.underlying136
 a39 := Try.isAgg136
 z39 := Try.sizeOf136
 v39 := Try.zeroValue136
 t45 := Try.underlying138
 a45 := Try.isAgg138
 z45 := Try.sizeOf138
 v45 := Try.zeroValue138
 t46 := Try.underlying139
 a46 := Try.isAgg139
 z46 := Try.sizeOf139
 v46 := Try.zeroValue139
 t50 := Try.underlying125
 a50 := Try.isAgg125
 z50 := Try.sizeOf125
 v50 := Try.zeroValue125
 t53 := Try.underlying145
 a53 := Try.isAgg145
 z53 := Try.sizeOf145
 v53 := Try.zeroValue145
 t55 := Try.underlying147
 a55 := Try.isAgg147
 z55 := Try.sizeOf147
 v55 := Try.zeroValue147
 t66 := Try.underlying148
 a66 := Try.isAgg148
 z66 := Try.sizeOf148
 v66 := Try.zeroValue148
 t70 := Try.underlying152
 a70 := Try.isAgg152
 z70 := Try.sizeOf152
 v70 := Try.zeroValue152
 t76 := Try.underlying154
 a76 := Try.isAgg154
 z76 := Try.sizeOf154
 v76 := Try.zeroValue154
 t77 := Try.underlying37
 a77 := Try.isAgg37
 z77 := Try.sizeOf37
 v77 := Try.zeroValue37 }
end Go.Proofs.Ytejhjijbgceklaa
