/-
  DERIVED: THE SHELF's CONTRACTS AT THIS DUMP, IN PLAIN WORDS (tools/lay-plain.mjs out of 'YtfgfhfmhadondaaDoorSrt.lean', which tools/lay-shelf.mjs wrote): THE SAME DECLARATIONS UNDER THE SAME NAMES: 'import', 'namespace', 'open', 'def', 'theorem' AND NOTHING ELSE: no command of the shelf's: FOR A HAND-IN. Each laying: the table of numbers ('.._ren') and one theorem, a field a fact of the dump's own or the kernel's comparison; each contract: ONE APPLICATION.
-/
import Derived.Shelf.SlSortCmp.WholeK
import Derived.Shelf.SlGeneric
import Derived.Ground.SlsfProg
import Derived.Test.YtfgfhfmhadondaaDoorProg
namespace Go.Proofs
open Go.Shelf
def Tryd.sortNames_ren : Go.Shelf.Ren := ⟨fun | 6 => 90 | 15 => 130 | 14 => 129 | 28 => 150 | 29 => 151 | 20 => 142 | 21 => 143 | 22 => 144 | 23 => 145 | 24 => 146 | 25 => 147 | 26 => 148 | 27 => 149 | 46 => 155 | 47 => 156 | 48 => 157 | 49 => 158 | 50 => 159 | 57 => 160 | n => n, fun | 22 => 125 | 24 => 60 | 25 => 124 | 3 => 3 | 39 => 117 | 0 => 0 | 53 => 155 | 55 => 150 | 4 => 4 | 46 => 175 | 45 => 174 | 50 => 164 | 5 => 5 | 9 => 9 | 66 => 185 | 70 => 189 | 76 => 191 | 77 => 192 | n => n, fun | n => n⟩
theorem Tryd.sortNames : Go.Proofs.SlLaysF0.n6 Tryd.prog Tryd.sortNames_ren := {
  mixed := by kernel_rfl
  f6 := ⟨Tryd.f90.name, by decide, Tryd.func90.trans (congrArg some (by kernel_rfl))⟩
  f14 := ⟨Tryd.f129.name, by decide, Tryd.func129.trans (congrArg some (by kernel_rfl))⟩
  f15 := Tryd.func130.trans (congrArg some (by kernel_rfl))
  f20 := ⟨Tryd.f142.name, by decide, Tryd.func142.trans (congrArg some (by kernel_rfl))⟩
  f21 := ⟨Tryd.f143.name, by decide, Tryd.func143.trans (congrArg some (by kernel_rfl))⟩
  f22 := ⟨Tryd.f144.name, by decide, Tryd.func144.trans (congrArg some (by kernel_rfl))⟩
  f23 := ⟨Tryd.f145.name, by decide, Tryd.func145.trans (congrArg some (by kernel_rfl))⟩
  f24 := ⟨Tryd.f146.name, by decide, Tryd.func146.trans (congrArg some (by kernel_rfl))⟩
  f25 := ⟨Tryd.f147.name, by decide, Tryd.func147.trans (congrArg some (by kernel_rfl))⟩
  f26 := ⟨Tryd.f148.name, by decide, Tryd.func148.trans (congrArg some (by kernel_rfl))⟩
  f27 := ⟨Tryd.f149.name, by decide, Tryd.func149.trans (congrArg some (by kernel_rfl))⟩
  f28 := Tryd.func150.trans (congrArg some (by kernel_rfl))
  f29 := Tryd.func151.trans (congrArg some (by kernel_rfl))
  f46 := ⟨Tryd.f155.name, by decide, Tryd.func155.trans (congrArg some (by kernel_rfl))⟩
  f47 := Tryd.func156.trans (congrArg some (by kernel_rfl))
  f48 := Tryd.func157.trans (congrArg some (by kernel_rfl))
  f49 := ⟨Tryd.f158.name, by decide, Tryd.func158.trans (congrArg some (by kernel_rfl))⟩
  f50 := ⟨Tryd.f159.name, by decide, Tryd.func159.trans (congrArg some (by kernel_rfl))⟩
  f57 := ⟨Tryd.f160.name, by decide, Tryd.func160.trans (congrArg some (by kernel_rfl))⟩
  t0 := Tryd.underlying0
  a0 := Tryd.isAgg0
  z0 := Tryd.sizeOf0
  v0 := Tryd.zeroValue0
  t3 := Tryd.underlying3
  a3 := Tryd.isAgg3
  z3 := Tryd.sizeOf3
  v3 := Tryd.zeroValue3
  t4 := Tryd.underlying4
  a4 := Tryd.isAgg4
  z4 := Tryd.sizeOf4
  v4 := Tryd.zeroValue4
  t5 := Tryd.underlying5
  a5 := Tryd.isAgg5
  z5 := Tryd.sizeOf5
  v5 := Tryd.zeroValue5
  t9 := Tryd.underlying9
  a9 := Tryd.isAgg9
  z9 := Tryd.sizeOf9
  v9 := Tryd.zeroValue9
  t22 := Tryd.underlying125
  a22 := Tryd.isAgg125
  z22 := Tryd.sizeOf125
  v22 := Tryd.zeroValue125
  t25 := Tryd.underlying124
  a25 := Tryd.isAgg124
  z25 := Tryd.sizeOf124
  v25 := Tryd.zeroValue124
  t39 := Tryd.underlying117
  a39 := Tryd.isAgg117
  z39 := Tryd.sizeOf117
  v39 := Tryd.zeroValue117
  t45 := Tryd.underlying174
  a45 := Tryd.isAgg174
  z45 := Tryd.sizeOf174
  v45 := Tryd.zeroValue174
  t46 := Tryd.underlying175
  a46 := Tryd.isAgg175
  z46 := Tryd.sizeOf175
  v46 := Tryd.zeroValue175
  t50 := Tryd.underlying164
  a50 := Tryd.isAgg164
  z50 := Tryd.sizeOf164
  v50 := Tryd.zeroValue164
  t53 := Tryd.underlying155
  a53 := Tryd.isAgg155
  z53 := Tryd.sizeOf155
  v53 := Tryd.zeroValue155
  t55 := Tryd.underlying150
  a55 := Tryd.isAgg150
  z55 := Tryd.sizeOf150
  v55 := Tryd.zeroValue150
  t66 := Tryd.underlying185
  a66 := Tryd.isAgg185
  z66 := Tryd.sizeOf185
  v66 := Tryd.zeroValue185
  t70 := Tryd.underlying189
  a70 := Tryd.isAgg189
  z70 := Tryd.sizeOf189
  v70 := Tryd.zeroValue189
  t76 := Tryd.underlying191
  a76 := Tryd.isAgg191
  z76 := Tryd.sizeOf191
  v76 := Tryd.zeroValue191
  t77 := Tryd.underlying192
  a77 := Tryd.isAgg192
  z77 := Tryd.sizeOf192
  v77 := Tryd.zeroValue192 }
end Go.Proofs
