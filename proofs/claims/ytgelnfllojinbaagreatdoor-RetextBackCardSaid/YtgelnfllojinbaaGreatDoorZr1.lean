/- Contracts and plain lemmas, part 1. -/
import Derived.Shelf.SlSortCmp.WholeK
import Derived.Shelf.Strconv.Itoa3
import Derived.Shelf.Sort.Plain
import Derived.Shelf.Small.Strs
import Derived.Shelf.Strings.Prefix
import Derived.Shelf.Small.Wraps
import Derived.Shelf.Strings.OnBuilder
import Derived.Shelf.Unicode.DecodeAny
import Derived.Shelf.Unicode.ValidAny
import Derived.Shelf.Strings.Runes
import Derived.Shelf.Strings.SlTrimAscii
import Derived.Shelf.Spec.TrailingZeros
import Derived.Test.YtgelnfllojinbaaGreatDoorProg
import Derived.Tactics
import Derived.Deep.Quiet
import Derived.Laws.AppendOwn
import Derived.KernelRfl
import Derived.Laws.Entries
import Derived.Laws.Build
import Derived.Below
import Derived.RowKit3
import Derived.StillTail
import Derived.Sort.Grow
import Derived.Deep.Draws
import Derived.Lib.AppendIntMem
import Derived.Laws.Externs
import Derived.Test.YtgelnfllojinbaaGreatDoorChecked
import Derived.Laws.StructEq
import Derived.Lib.IndexLaws
import Derived.MapKept
import Derived.Laws.BytesArg
import Derived.Lib.ConvBytes
import Derived.Defers
import Derived.Recover
import Derived.Lib.TrimUEq
import Derived.Lib.TrimAscii
import Derived.Lib.MapLaws
import Derived.OpenShut
import Derived.ChangeSlices
import Derived.Test.YtgelnfllojinbaaGreatDoorRows
namespace Go.Proofs
open Go.Shelf
def Tryz.sortSp_ren : Go.Shelf.Ren := ⟨fun | 6 => 143 | 15 => 148 | 14 => 149 | 28 => 170 | 29 => 115 | 20 => 171 | 21 => 172 | 22 => 173 | 23 => 174 | 24 => 175 | 25 => 176 | 26 => 177 | 27 => 178 | 46 => 192 | 47 => 188 | 48 => 189 | 49 => 193 | 50 => 194 | 57 => 201 | n => n, fun | 22 => 22 | 24 => 62 | 25 => 177 | 3 => 3 | 39 => 84 | 0 => 0 | 53 => 160 | 55 => 113 | 4 => 4 | 46 => 195 | 45 => 194 | 50 => 200 | 5 => 5 | 9 => 9 | 66 => 214 | 70 => 218 | 76 => 227 | 77 => 102 | n => n, fun | n => n⟩
theorem Tryz.sortSp : Go.Proofs.SlLaysF0.n6 Tryz.prog Tryz.sortSp_ren := {
 mixed := by kernel_rfl
 f6 := ⟨Tryz.f143.name, by decide, Tryz.func143.trans (congrArg some (by kernel_rfl))⟩
 f14 := ⟨Tryz.f149.name, by decide, Tryz.func149.trans (congrArg some (by kernel_rfl))⟩
 f15 := Tryz.func148.trans (congrArg some (by kernel_rfl))
 f20 := ⟨Tryz.f171.name, by decide, Tryz.func171.trans (congrArg some (by kernel_rfl))⟩
 f21 := ⟨Tryz.f172.name, by decide, Tryz.func172.trans (congrArg some (by kernel_rfl))⟩
 f22 := ⟨Tryz.f173.name, by decide, Tryz.func173.trans (congrArg some (by kernel_rfl))⟩
 f23 := ⟨Tryz.f174.name, by decide, Tryz.func174.trans (congrArg some (by kernel_rfl))⟩
 f24 := ⟨Tryz.f175.name, by decide, Tryz.func175.trans (congrArg some (by kernel_rfl))⟩
 f25 := ⟨Tryz.f176.name, by decide, Tryz.func176.trans (congrArg some (by kernel_rfl))⟩
 f26 := ⟨Tryz.f177.name, by decide, Tryz.func177.trans (congrArg some (by kernel_rfl))⟩
 f27 := ⟨Tryz.f178.name, by decide, Tryz.func178.trans (congrArg some (by kernel_rfl))⟩
 f28 := Tryz.func170.trans (congrArg some (by kernel_rfl))
 f29 := Tryz.func115.trans (congrArg some (by kernel_rfl))
 f46 := ⟨Tryz.f192.name, by decide, Tryz.func192.trans (congrArg some (by kernel_rfl))⟩
 f47 := Tryz.func188.trans (congrArg some (by kernel_rfl))
 f48 := Tryz.func189.trans (congrArg some (by kernel_rfl))
 f49 := ⟨Tryz.f193.name, by decide, Tryz.func193.trans (congrArg some (by kernel_rfl))⟩
 f50 := ⟨Tryz.f194.name, by decide, Tryz.func194.trans (congrArg some (by kernel_rfl))⟩
 f57 := ⟨Tryz.f201.name, by decide, Tryz.func201.trans (congrArg some (by kernel_rfl))⟩
 t0 := Tryz.underlying0
 a0 := Tryz.isAgg0
 z0 := Tryz.sizeOf0
 v0 := Tryz.zeroValue0
 t3 := Tryz.underlying3
 a3 := Tryz.isAgg3
 z3 := Tryz.sizeOf3
 v3 := Tryz.zeroValue3
 t4 := Tryz.underlying4
 a4 := Tryz.isAgg4
 z4 := Tryz.sizeOf4
 v4 := Tryz.zeroValue4
 t5 := Tryz.underlying5
 a5 := Tryz.isAgg5
 z5 := Tryz.sizeOf5
 v5 := Tryz.zeroValue5
 t9 := Tryz.underlying9
 a9 := Tryz.isAgg9
 z9 := Tryz.sizeOf9
 v9 := Tryz.zeroValue9
 t22 := Tryz.underlying22
 a22 := Tryz.isAgg22
 z22 := Tryz.sizeOf22
 v22 := Tryz.zeroValue22
 t25 := Tryz.underlying177
 a25 := Tryz.isAgg177
 z25 := Tryz.sizeOf177
 v25 := Tryz.zeroValue177
 t39 := Tryz.underlying84
 a39 := Tryz.isAgg84
 z39 := Tryz.sizeOf84
 v39 := Tryz.zeroValue84
 t45 := Tryz.underlying194
 a45 := Tryz.isAgg194
 z45 := Tryz.sizeOf194
 v45 := Tryz.zeroValue194
 t46 := Tryz.underlying195
 a46 := Tryz.isAgg195
 z46 := Tryz.sizeOf195
 v46 := Tryz.zeroValue195
 t50 := Tryz.underlying200
 a50 := Tryz.isAgg200
 z50 := Tryz.sizeOf200
 v50 := Tryz.zeroValue200
 t53 := Tryz.underlying160
 a53 := Tryz.isAgg160
 z53 := Tryz.sizeOf160
 v53 := Tryz.zeroValue160
 t55 := Tryz.underlying113
 a55 := Tryz.isAgg113
 z55 := Tryz.sizeOf113
 v55 := Tryz.zeroValue113
 t66 := Tryz.underlying214
 a66 := Tryz.isAgg214
 z66 := Tryz.sizeOf214
 v66 := Tryz.zeroValue214
 t70 := Tryz.underlying218
 a70 := Tryz.isAgg218
 z70 := Tryz.sizeOf218
 v70 := Tryz.zeroValue218
 t76 := Tryz.underlying227
 a76 := Tryz.isAgg227
 z76 := Tryz.sizeOf227
 v76 := Tryz.zeroValue227
 t77 := Tryz.underlying102
 a77 := Tryz.isAgg102
 z77 := Tryz.sizeOf102
 v77 := Tryz.zeroValue102 }
def Tryz.itoaS_ren : Go.Shelf.Ren := ⟨fun | 171 => 24 | 243 => 47 | 246 => 74 | 283 => 95 | 284 => 96 | 285 => 97 | 286 => 98 | 129 => 115 | 317 => 114 | 318 => 116 | 319 => 117 | 320 => 118 | 337 => 130 | 338 => 131 | n => n, fun | 3 => 3 | 9 => 9 | 2 => 2 | 4 => 4 | 171 => 146 | 0 => 0 | 53 => 113 | 37 => 138 | 5 => 5 | 173 => 149 | 212 => 159 | 51 => 160 | 20 => 20 | 213 => 161 | 46 => 84 | 232 => 174 | 233 => 175 | n => n, fun | 17 => 3 | 18 => 5 | 19 => 6 | n => n⟩
theorem Tryz.itoaS : Go.Proofs.LaysM.n171 Tryz.prog Tryz.itoaS_ren := {
 mixed := by kernel_rfl
 f129 := Tryz.func115.trans (congrArg some (by kernel_rfl))
 f171 := Tryz.func24.trans (congrArg some (by kernel_rfl))
 f243 := Tryz.func47.trans (congrArg some (by kernel_rfl))
 f246 := Tryz.func74.trans (congrArg some (by kernel_rfl))
 f283 := Tryz.func95.trans (congrArg some (by kernel_rfl))
 f284 := Tryz.func96.trans (congrArg some (by kernel_rfl))
 f285 := Tryz.func97.trans (congrArg some (by kernel_rfl))
 f286 := Tryz.func98.trans (congrArg some (by kernel_rfl))
 f317 := Tryz.func114.trans (congrArg some (by kernel_rfl))
 f318 := Tryz.func116.trans (congrArg some (by kernel_rfl))
 f319 := Tryz.func117.trans (congrArg some (by kernel_rfl))
 f320 := Tryz.func118.trans (congrArg some (by kernel_rfl))
 f337 := Tryz.func130.trans (congrArg some (by kernel_rfl))
 f338 := Tryz.func131.trans (congrArg some (by kernel_rfl))
 t0 := Tryz.underlying0
 a0 := Tryz.isAgg0
 z0 := Tryz.sizeOf0
 v0 := Tryz.zeroValue0
 t2 := Tryz.underlying2
 a2 := Tryz.isAgg2
 z2 := Tryz.sizeOf2
 v2 := Tryz.zeroValue2
 t3 := Tryz.underlying3
 a3 := Tryz.isAgg3
 z3 := Tryz.sizeOf3
 v3 := Tryz.zeroValue3
 t4 := Tryz.underlying4
 a4 := Tryz.isAgg4
 z4 := Tryz.sizeOf4
 v4 := Tryz.zeroValue4
 t5 := Tryz.underlying5
 a5 := Tryz.isAgg5
 z5 := Tryz.sizeOf5
 v5 := Tryz.zeroValue5
 t9 := Tryz.underlying9
 a9 := Tryz.isAgg9
 z9 := Tryz.sizeOf9
 v9 := Tryz.zeroValue9
 t20 := Tryz.underlying20
 a20 := Tryz.isAgg20
 z20 := Tryz.sizeOf20
 v20 := Tryz.zeroValue20
 t37 := Tryz.underlying138
 a37 := Tryz.isAgg138
 z37 := Tryz.sizeOf138
 v37 := Tryz.zeroValue138
 t46 := Tryz.underlying84
 a46 := Tryz.isAgg84
 z46 := Tryz.sizeOf84
 v46 := Tryz.zeroValue84
 t51 := Tryz.underlying160
 a51 := Tryz.isAgg160
 z51 := Tryz.sizeOf160
 v51 := Tryz.zeroValue160
 t53 := Tryz.underlying113
 a53 := Tryz.isAgg113
 z53 := Tryz.sizeOf113
 v53 := Tryz.zeroValue113
 t171 := Tryz.underlying146
 a171 := Tryz.isAgg146
 z171 := Tryz.sizeOf146
 v171 := Tryz.zeroValue146
 t173 := Tryz.underlying149
 a173 := Tryz.isAgg149
 z173 := Tryz.sizeOf149
 v173 := Tryz.zeroValue149
 t212 := Tryz.underlying159
 a212 := Tryz.isAgg159
 z212 := Tryz.sizeOf159
 v212 := Tryz.zeroValue159
 t213 := Tryz.underlying161
 a213 := Tryz.isAgg161
 z213 := Tryz.sizeOf161
 t232 := Tryz.underlying174
 a232 := Tryz.isAgg174
 z232 := Tryz.sizeOf174
 v232 := Tryz.zeroValue174
 t233 := Tryz.underlying175
 a233 := Tryz.isAgg175
 z233 := Tryz.sizeOf175
 v233 := Tryz.zeroValue175
 g17 := by kernel_rfl
 g18 := by kernel_rfl
 g19 := by kernel_rfl
 i0 := by kernel_rfl
 i2 := by kernel_rfl
 i3 := by kernel_rfl
 i4 := by kernel_rfl
 i5 := by kernel_rfl
 i9 := by kernel_rfl
 i20 := by kernel_rfl
 i37 := by kernel_rfl
 i46 := by kernel_rfl
 i51 := by kernel_rfl
 i53 := by kernel_rfl
 i171 := by kernel_rfl
 i173 := by kernel_rfl
 i212 := by kernel_rfl
 i232 := by kernel_rfl
 i233 := by kernel_rfl
 m17 := by kernel_rfl
 m18 := by kernel_rfl
 m19 := by kernel_rfl }
def Tryz.ixbS_ren : Go.Shelf.Ren := ⟨fun | 137 => 58 | 217 => 80 | 266 => 102 | n => n, fun | 9 => 9 | 5 => 5 | 3 => 3 | n => n, fun | n => n⟩
theorem Tryz.ixbS : Go.Proofs.Lays.n137 Tryz.prog Tryz.ixbS_ren := {
 mixed := by kernel_rfl
 f137 := Tryz.func58.trans (congrArg some (by kernel_rfl))
 f217 := Tryz.func80.trans (congrArg some (by kernel_rfl))
 f266 := Tryz.func102.trans (congrArg some (by kernel_rfl))
 t3 := Tryz.underlying3
 a3 := Tryz.isAgg3
 z3 := Tryz.sizeOf3
 v3 := Tryz.zeroValue3
 t5 := Tryz.underlying5
 a5 := Tryz.isAgg5
 z5 := Tryz.sizeOf5
 v5 := Tryz.zeroValue5
 t9 := Tryz.underlying9
 a9 := Tryz.isAgg9
 z9 := Tryz.sizeOf9
 v9 := Tryz.zeroValue9 }
def Tryz.hasS_ren : Go.Shelf.Ren := ⟨fun | 99 => 60 | 206 => 83 | n => n, fun | 9 => 9 | 4 => 4 | 3 => 3 | n => n, fun | n => n⟩
theorem Tryz.hasS : Go.Proofs.Lays.n99 Tryz.prog Tryz.hasS_ren := {
 mixed := by kernel_rfl
 f99 := Tryz.func60.trans (congrArg some (by kernel_rfl))
 f206 := Tryz.func83.trans (congrArg some (by kernel_rfl))
 t3 := Tryz.underlying3
 a3 := Tryz.isAgg3
 z3 := Tryz.sizeOf3
 v3 := Tryz.zeroValue3
 t4 := Tryz.underlying4
 a4 := Tryz.isAgg4
 z4 := Tryz.sizeOf4
 v4 := Tryz.zeroValue4
 t9 := Tryz.underlying9
 a9 := Tryz.isAgg9
 z9 := Tryz.sizeOf9
 v9 := Tryz.zeroValue9 }
def Tryz.cutS_ren : Go.Shelf.Ren := ⟨fun | 103 => 99 | 210 => 119 | 206 => 83 | n => n, fun | 9 => 9 | 4 => 4 | 24 => 151 | 3 => 3 | n => n, fun | n => n⟩
theorem Tryz.cutS : Go.Proofs.Lays.n103 Tryz.prog Tryz.cutS_ren := {
 mixed := by kernel_rfl
 f103 := Tryz.func99.trans (congrArg some (by kernel_rfl))
 f206 := Tryz.func83.trans (congrArg some (by kernel_rfl))
 f210 := Tryz.func119.trans (congrArg some (by kernel_rfl))
 t3 := Tryz.underlying3
 a3 := Tryz.isAgg3
 z3 := Tryz.sizeOf3
 v3 := Tryz.zeroValue3
 t4 := Tryz.underlying4
 a4 := Tryz.isAgg4
 z4 := Tryz.sizeOf4
 v4 := Tryz.zeroValue4
 t9 := Tryz.underlying9
 a9 := Tryz.isAgg9
 z9 := Tryz.sizeOf9
 v9 := Tryz.zeroValue9
 t24 := Tryz.underlying151
 a24 := Tryz.isAgg151
 z24 := Tryz.sizeOf151
 v24 := Tryz.zeroValue151 }
def Tryz.joinS_ren : Go.Shelf.Ren := ⟨fun | 156 => 70 | 165 => 91 | 166 => 92 | 169 => 93 | 240 => 111 | 241 => 112 | 276 => 125 | 277 => 126 | n => n, fun | 31 => 45 | 9 => 9 | 3 => 3 | 4 => 4 | 0 => 0 | 20 => 20 | 72 => 140 | 76 => 142 | 70 => 137 | 37 => 138 | 75 => 48 | 127 => 156 | 164 => 85 | 5 => 5 | 80 => 144 | n => n, fun | n => n⟩
theorem Tryz.joinS : Go.Proofs.Lays.n156 Tryz.prog Tryz.joinS_ren := {
 mixed := by kernel_rfl
 f156 := Tryz.func70.trans (congrArg some (by kernel_rfl))
 f165 := Tryz.func91.trans (congrArg some (by kernel_rfl))
 f166 := Tryz.func92.trans (congrArg some (by kernel_rfl))
 f169 := Tryz.func93.trans (congrArg some (by kernel_rfl))
 f240 := Tryz.func111.trans (congrArg some (by kernel_rfl))
 f241 := Tryz.func112.trans (congrArg some (by kernel_rfl))
 f276 := Tryz.func125.trans (congrArg some (by kernel_rfl))
 f277 := Tryz.func126.trans (congrArg some (by kernel_rfl))
 t0 := Tryz.underlying0
 a0 := Tryz.isAgg0
 z0 := Tryz.sizeOf0
 v0 := Tryz.zeroValue0
 t3 := Tryz.underlying3
 a3 := Tryz.isAgg3
 z3 := Tryz.sizeOf3
 v3 := Tryz.zeroValue3
 t4 := Tryz.underlying4
 a4 := Tryz.isAgg4
 z4 := Tryz.sizeOf4
 v4 := Tryz.zeroValue4
 t9 := Tryz.underlying9
 a9 := Tryz.isAgg9
 z9 := Tryz.sizeOf9
 v9 := Tryz.zeroValue9
 t20 := Tryz.underlying20
 a20 := Tryz.isAgg20
 z20 := Tryz.sizeOf20
 v20 := Tryz.zeroValue20
 t31 := Tryz.underlying45
 a31 := Tryz.isAgg45
 z31 := Tryz.sizeOf45
 v31 := Tryz.zeroValue45
 t37 := Tryz.underlying138
 a37 := Tryz.isAgg138
 z37 := Tryz.sizeOf138
 v37 := Tryz.zeroValue138
 t70 := Tryz.underlying137
 a70 := Tryz.isAgg137
 z70 := Tryz.sizeOf137
 v70 := Tryz.zeroValue137
 t72 := Tryz.underlying140
 a72 := Tryz.isAgg140
 z72 := Tryz.sizeOf140
 v72 := Tryz.zeroValue140
 t75 := Tryz.underlying48
 a75 := Tryz.isAgg48
 z75 := Tryz.sizeOf48
 v75 := Tryz.zeroValue48
 t76 := Tryz.underlying142
 a76 := Tryz.isAgg142
 z76 := Tryz.sizeOf142
 v76 := Tryz.zeroValue142
 t127 := Tryz.underlying156
 a127 := Tryz.isAgg156
 z127 := Tryz.sizeOf156
 v127 := Tryz.zeroValue156
 t164 := Tryz.underlying85
 a164 := Tryz.isAgg85
 z164 := Tryz.sizeOf85
 v164 := Tryz.zeroValue85 }
def Tryz.decS_ren : Go.Shelf.Ren := ⟨fun | 197 => 84 | 260 => 108 | n => n, fun | 9 => 9 | 21 => 21 | 3 => 3 | 4 => 4 | 5 => 5 | 105 => 130 | 119 => 80 | 0 => 0 | 46 => 84 | 139 => 83 | 138 => 82 | n => n, fun | 3 => 0 | 4 => 1 | n => n⟩
theorem Tryz.decS : Go.Proofs.Lays.n197 Tryz.prog Tryz.decS_ren := {
 mixed := by kernel_rfl
 f197 := Tryz.func84.trans (congrArg some (by kernel_rfl))
 f260 := Tryz.func108.trans (congrArg some (by kernel_rfl))
 t0 := Tryz.underlying0
 a0 := Tryz.isAgg0
 z0 := Tryz.sizeOf0
 v0 := Tryz.zeroValue0
 t3 := Tryz.underlying3
 a3 := Tryz.isAgg3
 z3 := Tryz.sizeOf3
 v3 := Tryz.zeroValue3
 t4 := Tryz.underlying4
 a4 := Tryz.isAgg4
 z4 := Tryz.sizeOf4
 v4 := Tryz.zeroValue4
 t5 := Tryz.underlying5
 a5 := Tryz.isAgg5
 z5 := Tryz.sizeOf5
 v5 := Tryz.zeroValue5
 t9 := Tryz.underlying9
 a9 := Tryz.isAgg9
 z9 := Tryz.sizeOf9
 v9 := Tryz.zeroValue9
 t21 := Tryz.underlying21
 a21 := Tryz.isAgg21
 z21 := Tryz.sizeOf21
 v21 := Tryz.zeroValue21
 t46 := Tryz.underlying84
 a46 := Tryz.isAgg84
 z46 := Tryz.sizeOf84
 v46 := Tryz.zeroValue84
 t105 := Tryz.underlying130
 a105 := Tryz.isAgg130
 z105 := Tryz.sizeOf130
 v105 := Tryz.zeroValue130
 t119 := Tryz.underlying80
 a119 := Tryz.isAgg80
 z119 := Tryz.sizeOf80
 t138 := Tryz.underlying82
 a138 := Tryz.isAgg82
 z138 := Tryz.sizeOf82
 v138 := Tryz.zeroValue82
 t139 := Tryz.underlying83
 a139 := Tryz.isAgg83
 z139 := Tryz.sizeOf83
 v139 := Tryz.zeroValue83
 g3 := by kernel_rfl
 g4 := by kernel_rfl }
def Tryz.valS_ren : Go.Shelf.Ren := ⟨fun | 196 => 26 | 259 => 48 | n => n, fun | 9 => 9 | 4 => 4 | 3 => 3 | 5 => 5 | 12 => 12 | 119 => 80 | 0 => 0 | 46 => 84 | 139 => 83 | 138 => 82 | 53 => 113 | n => n, fun | 3 => 0 | 4 => 1 | n => n⟩
theorem Tryz.valS : Go.Proofs.Lays.n196 Tryz.prog Tryz.valS_ren := {
 mixed := by kernel_rfl
 f196 := Tryz.func26.trans (congrArg some (by kernel_rfl))
 f259 := Tryz.func48.trans (congrArg some (by kernel_rfl))
 t0 := Tryz.underlying0
 a0 := Tryz.isAgg0
 z0 := Tryz.sizeOf0
 v0 := Tryz.zeroValue0
 t3 := Tryz.underlying3
 a3 := Tryz.isAgg3
 z3 := Tryz.sizeOf3
 v3 := Tryz.zeroValue3
 t4 := Tryz.underlying4
 a4 := Tryz.isAgg4
 z4 := Tryz.sizeOf4
 v4 := Tryz.zeroValue4
 t5 := Tryz.underlying5
 a5 := Tryz.isAgg5
 z5 := Tryz.sizeOf5
 v5 := Tryz.zeroValue5
 t9 := Tryz.underlying9
 a9 := Tryz.isAgg9
 z9 := Tryz.sizeOf9
 v9 := Tryz.zeroValue9
 t12 := Tryz.underlying12
 a12 := Tryz.isAgg12
 z12 := Tryz.sizeOf12
 v12 := Tryz.zeroValue12
 t46 := Tryz.underlying84
 a46 := Tryz.isAgg84
 z46 := Tryz.sizeOf84
 v46 := Tryz.zeroValue84
 t53 := Tryz.underlying113
 a53 := Tryz.isAgg113
 z53 := Tryz.sizeOf113
 v53 := Tryz.zeroValue113
 t119 := Tryz.underlying80
 a119 := Tryz.isAgg80
 z119 := Tryz.sizeOf80
 t138 := Tryz.underlying82
 a138 := Tryz.isAgg82
 z138 := Tryz.sizeOf82
 v138 := Tryz.zeroValue82
 t139 := Tryz.underlying83
 a139 := Tryz.isAgg83
 z139 := Tryz.sizeOf83
 v139 := Tryz.zeroValue83
 g3 := by kernel_rfl
 g4 := by kernel_rfl }
def Tryz.conS_ren : Go.Shelf.Ren := ⟨fun | 151 => 94 | 152 => 113 | 137 => 58 | 119 => 127 | 224 => 128 | 225 => 129 | 217 => 80 | 266 => 102 | n => n, fun | 9 => 9 | 21 => 21 | 4 => 4 | 3 => 3 | 5 => 5 | 0 => 0 | 46 => 84 | n => n, fun | n => n⟩
theorem Tryz.conS : Go.Proofs.Lays.n151 Tryz.prog Tryz.conS_ren := {
 mixed := by kernel_rfl
 f119 := Tryz.func127.trans (congrArg some (by kernel_rfl))
 f137 := Tryz.func58.trans (congrArg some (by kernel_rfl))
 f151 := Tryz.func94.trans (congrArg some (by kernel_rfl))
 f152 := Tryz.func113.trans (congrArg some (by kernel_rfl))
 f217 := Tryz.func80.trans (congrArg some (by kernel_rfl))
 f224 := Tryz.func128.trans (congrArg some (by kernel_rfl))
 f225 := Tryz.func129.trans (congrArg some (by kernel_rfl))
 f266 := Tryz.func102.trans (congrArg some (by kernel_rfl))
 t0 := Tryz.underlying0
 a0 := Tryz.isAgg0
 z0 := Tryz.sizeOf0
 v0 := Tryz.zeroValue0
 t3 := Tryz.underlying3
 a3 := Tryz.isAgg3
 z3 := Tryz.sizeOf3
 v3 := Tryz.zeroValue3
 t4 := Tryz.underlying4
 a4 := Tryz.isAgg4
 z4 := Tryz.sizeOf4
 v4 := Tryz.zeroValue4
 t5 := Tryz.underlying5
 a5 := Tryz.isAgg5
 z5 := Tryz.sizeOf5
 v5 := Tryz.zeroValue5
 t9 := Tryz.underlying9
 a9 := Tryz.isAgg9
 z9 := Tryz.sizeOf9
 v9 := Tryz.zeroValue9
 t21 := Tryz.underlying21
 a21 := Tryz.isAgg21
 z21 := Tryz.sizeOf21
 v21 := Tryz.zeroValue21
 t46 := Tryz.underlying84
 a46 := Tryz.isAgg84
 z46 := Tryz.sizeOf84
 v46 := Tryz.zeroValue84 }
def Tryz.trimS_ren : Go.Shelf.Ren := ⟨fun | 160 => 145 | 232 => 153 | 231 => 152 | 227 => 154 | 234 => 156 | 233 => 155 | 236 => 158 | 235 => 157 | 228 => 180 | 271 => 181 | 151 => 94 | 197 => 84 | 120 => 195 | 152 => 113 | 260 => 108 | 137 => 58 | 119 => 127 | 224 => 128 | 225 => 129 | 217 => 80 | 266 => 102 | n => n, fun | 9 => 9 | 4 => 4 | 3 => 3 | 5 => 5 | 117 => 188 | 116 => 187 | 0 => 0 | 124 => 191 | 21 => 21 | 105 => 130 | 46 => 84 | 119 => 80 | 139 => 83 | 138 => 82 | n => n, fun | 3 => 0 | 4 => 1 | n => n⟩
theorem Tryz.trimS : Go.Proofs.Lays.n160 Tryz.prog Tryz.trimS_ren := {
 mixed := by kernel_rfl
 f119 := Tryz.func127.trans (congrArg some (by kernel_rfl))
 f120 := Tryz.func195.trans (congrArg some (by kernel_rfl))
 f137 := Tryz.func58.trans (congrArg some (by kernel_rfl))
 f151 := Tryz.func94.trans (congrArg some (by kernel_rfl))
 f152 := Tryz.func113.trans (congrArg some (by kernel_rfl))
 f160 := Tryz.func145.trans (congrArg some (by kernel_rfl))
 f197 := Tryz.func84.trans (congrArg some (by kernel_rfl))
 f217 := Tryz.func80.trans (congrArg some (by kernel_rfl))
 f224 := Tryz.func128.trans (congrArg some (by kernel_rfl))
 f225 := Tryz.func129.trans (congrArg some (by kernel_rfl))
 f227 := Tryz.func154.trans (congrArg some (by kernel_rfl))
 f228 := Tryz.func180.trans (congrArg some (by kernel_rfl))
 f231 := Tryz.func152.trans (congrArg some (by kernel_rfl))
 f232 := Tryz.func153.trans (congrArg some (by kernel_rfl))
 f233 := Tryz.func155.trans (congrArg some (by kernel_rfl))
 f234 := Tryz.func156.trans (congrArg some (by kernel_rfl))
 f235 := Tryz.func157.trans (congrArg some (by kernel_rfl))
 f236 := Tryz.func158.trans (congrArg some (by kernel_rfl))
 f260 := Tryz.func108.trans (congrArg some (by kernel_rfl))
 f266 := Tryz.func102.trans (congrArg some (by kernel_rfl))
 f271 := Tryz.func181.trans (congrArg some (by kernel_rfl))
 t0 := Tryz.underlying0
 a0 := Tryz.isAgg0
 z0 := Tryz.sizeOf0
 v0 := Tryz.zeroValue0
 t3 := Tryz.underlying3
 a3 := Tryz.isAgg3
 z3 := Tryz.sizeOf3
 v3 := Tryz.zeroValue3
 t4 := Tryz.underlying4
 a4 := Tryz.isAgg4
 z4 := Tryz.sizeOf4
 v4 := Tryz.zeroValue4
 t5 := Tryz.underlying5
 a5 := Tryz.isAgg5
 z5 := Tryz.sizeOf5
 v5 := Tryz.zeroValue5
 t9 := Tryz.underlying9
 a9 := Tryz.isAgg9
 z9 := Tryz.sizeOf9
 v9 := Tryz.zeroValue9
 t21 := Tryz.underlying21
 a21 := Tryz.isAgg21
 z21 := Tryz.sizeOf21
 v21 := Tryz.zeroValue21
 t46 := Tryz.underlying84
 a46 := Tryz.isAgg84
 z46 := Tryz.sizeOf84
 v46 := Tryz.zeroValue84
 t105 := Tryz.underlying130
 a105 := Tryz.isAgg130
 z105 := Tryz.sizeOf130
 v105 := Tryz.zeroValue130
 t116 := Tryz.underlying187
 a116 := Tryz.isAgg187
 z116 := Tryz.sizeOf187
 t117 := Tryz.underlying188
 a117 := Tryz.isAgg188
 z117 := Tryz.sizeOf188
 v117 := Tryz.zeroValue188
 t119 := Tryz.underlying80
 a119 := Tryz.isAgg80
 z119 := Tryz.sizeOf80
 t124 := Tryz.underlying191
 a124 := Tryz.isAgg191
 z124 := Tryz.sizeOf191
 v124 := Tryz.zeroValue191
 t138 := Tryz.underlying82
 a138 := Tryz.isAgg82
 z138 := Tryz.sizeOf82
 v138 := Tryz.zeroValue82
 t139 := Tryz.underlying83
 a139 := Tryz.isAgg83
 z139 := Tryz.sizeOf83
 v139 := Tryz.zeroValue83
 g3 := by kernel_rfl
 g4 := by kernel_rfl }
def Tryz.tzS_ren : Go.Shelf.Ren := ⟨fun | 27 => 118 | 28 => 130 | 29 => 131 | n => n, fun | 25 => 84 | 3 => 3 | 27 => 160 | 22 => 113 | 4 => 4 | 53 => 174 | 0 => 0 | 5 => 5 | 54 => 175 | n => n, fun | 0 => 5 | 1 => 6 | n => n⟩
theorem Tryz.tzS : Go.Proofs.Lays7.n27 Tryz.prog Tryz.tzS_ren := {
 mixed := by kernel_rfl
 f27 := Tryz.func118.trans (congrArg some (by kernel_rfl))
 f28 := Tryz.func130.trans (congrArg some (by kernel_rfl))
 f29 := Tryz.func131.trans (congrArg some (by kernel_rfl))
 t0 := Tryz.underlying0
 a0 := Tryz.isAgg0
 z0 := Tryz.sizeOf0
 v0 := Tryz.zeroValue0
 i0 := by kernel_rfl
 t3 := Tryz.underlying3
 a3 := Tryz.isAgg3
 z3 := Tryz.sizeOf3
 v3 := Tryz.zeroValue3
 i3 := by kernel_rfl
 t4 := Tryz.underlying4
 a4 := Tryz.isAgg4
 z4 := Tryz.sizeOf4
 v4 := Tryz.zeroValue4
 i4 := by kernel_rfl
 t5 := Tryz.underlying5
 a5 := Tryz.isAgg5
 z5 := Tryz.sizeOf5
 v5 := Tryz.zeroValue5
 i5 := by kernel_rfl
 t22 := Tryz.underlying113
 a22 := Tryz.isAgg113
 z22 := Tryz.sizeOf113
 v22 := Tryz.zeroValue113
 i22 := by kernel_rfl
 t25 := Tryz.underlying84
 a25 := Tryz.isAgg84
 z25 := Tryz.sizeOf84
 v25 := Tryz.zeroValue84
 i25 := by kernel_rfl
 t27 := Tryz.underlying160
 a27 := Tryz.isAgg160
 z27 := Tryz.sizeOf160
 v27 := Tryz.zeroValue160
 i27 := by kernel_rfl
 t53 := Tryz.underlying174
 a53 := Tryz.isAgg174
 z53 := Tryz.sizeOf174
 v53 := Tryz.zeroValue174
 i53 := by kernel_rfl
 t54 := Tryz.underlying175
 a54 := Tryz.isAgg175
 z54 := Tryz.sizeOf175
 g0 := by kernel_rfl
 g1 := by kernel_rfl }
end Go.Proofs
namespace Go.Eng
open Go
abbrev Env := Nat → Value
abbrev Post := Exit → Env → World → Prop
def upd (σ : Env) (d : Nat) (v : Value) : Env := fun t => bif Nat.beq t d then v else σ t
def ev (σ : Env) : Operand → Value
  | .tmp t => σ t
  | .const v => v
  | .global g => .pointer (some ⟨g, 0, none⟩)
  | .func f => .func (.func f) #[] #[]
def env (a : Act) : Env := fun t => a.tmps.getD t undef
def lk (t : Nat) : List (Nat × Value) → Value → Value
  | [], d => d
  | (k, v) :: r, d => bif Nat.beq t k then v else lk t r d
def upds (σ : Env) (l : List (Nat × Value)) : Env := fun t => lk t l (σ t)
theorem upds_self (σ : Env) (l : List (Nat × Value)) (h : ∀ p ∈ l, σ p.1 = p.2) : upds σ l = σ := by
  funext t
  unfold upds
  induction l with
  | nil => rfl
  | cons p r ih =>
    obtain ⟨k, v⟩ := p
    simp only [lk]
    cases hb : Nat.beq t k
    · simp only [cond_false]
      exact ih fun p hp => h p (List.mem_cons_of_mem _ hp)
    · have : t = k := Nat.eq_of_beq_eq_true hb
      subst this
      simp only [cond_true]
      exact (h (t, v) List.mem_cons_self).symm
def Fits (σ : Env) : List (Nat × Value) → Prop
  | [] => True
  | (k, v) :: r => σ k = v ∧ Fits σ r
theorem Fits.all {σ : Env} : ∀ {l : List (Nat × Value)}, Fits σ l → ∀ p ∈ l, σ p.1 = p.2
  | [], _, _, hp => by cases hp
  | (k, v) :: r, h, p, hp => by
    cases hp with
    | head => exact h.1
    | tail _ hp => exact Fits.all h.2 p hp
theorem Fits.out {σ : Env} {l : List (Nat × Value)} (h : Fits σ l) : ∃ j, σ = upds j l := ⟨σ, (upds_self σ l h.all).symm⟩
theorem eval_env (a : Act) : a.eval = ev (env a) := by
  funext x
  cases x <;> rfl
structure Ok (dz : List Deferred) (N : Nat) (a : Act) : Prop where
  size : a.tmps.size = N
  defers : a.defers = dz
theorem env_put {dz : List Deferred} {N : Nat} {a : Act} (h : Ok dz N a) {d : Nat} (hd : d < N) (v : Value) : env (a.put (some d) v) = upd (env a) d v := by
  funext t
  have hs := h.size
  simp only [env, upd, Act.put]
  cases hb : Nat.beq t d
  · have hne : d ≠ t := fun e => by subst e; rw [Nat.beq_refl] at hb; cases hb
    simp [Array.getElem?_setIfInBounds_ne hne]
  · have : t = d := Nat.eq_of_beq_eq_true hb
    subst this
    simp [hs, hd]
theorem Ok.put {dz : List Deferred} {N : Nat} {a : Act} (h : Ok dz N a) (d : Option Nat) (v : Value) : Ok dz N (a.put d v) := by
  cases d with
  | none => exact h
  | some d => exact ⟨by simp [Act.put, h.size], h.defers⟩
def lift (dz : List Deferred) (N : Nat) (Q : Post) : Exit → Act → World → Prop := fun e a w => Ok dz N a ∧ Q e (env a) w
def Wp (P : Program) (N : Nat) (c : Code) (Q : Post) (σ : Env) (w : World) : Prop :=
  ∀ dz a, Ok dz N a → env a = σ → c.wp P (lift dz N Q) a w
def thn (K : Env → World → Prop) (Q : Post) : Post
  | .normal => K
  | e => Q e
def inB (id : Nat) (Q : Post) : Post
  | .exit j => if j = id then Q .normal else Q (.exit j)
  | e => Q e
section
variable {P : Program} {N : Nat} {Q : Post} {σ : Env} {w : World} {K : Env → World → Prop}
theorem thn_normal (h : K σ w) : thn K Q .normal σ w := h
theorem thn_exit {j : Nat} (h : Q (.exit j) σ w) : thn K Q (.exit j) σ w := h
theorem thn_ret (h : Q .ret σ w) : thn K Q .ret σ w := h
theorem inB_normal {id : Nat} (h : Q .normal σ w) : inB id Q .normal σ w := h
theorem inB_ret {id : Nat} (h : Q .ret σ w) : inB id Q .ret σ w := h
theorem inB_here {id : Nat} (h : Q .normal σ w) : inB id Q (.exit id) σ w := by unfold inB; simp only [if_true]; exact h
theorem Wp_mono {c : Code} {Q' : Post} (h : Wp P N c Q σ w) (hq : ∀ e σ w, Q e σ w → Q' e σ w) : Wp P N c Q' σ w :=
  fun dz a ha he => Code.wp_mono (fun _ _ _ ⟨o, q⟩ => ⟨o, hq _ _ _ q⟩) (h dz a ha he)
theorem Wp_seq {x y : Code} (h : Wp P N x (thn (Wp P N y Q) Q) σ w) : Wp P N (.seq x y) Q σ w := by
  intro dz a ha he
  refine wp_seq (Code.wp_mono ?_ (h dz a ha he))
  rintro e a w ⟨o, q⟩
  cases e <;> first | exact q dz a o rfl | exact ⟨o, q⟩
theorem Wp_skip (h : Q .normal σ w) : Wp P N .skip Q σ w := fun _ _ ha he => wp_skip ⟨ha, he ▸ h⟩
theorem Wp_exit {id : Nat} (h : Q (.exit id) σ w) : Wp P N (.exit id) Q σ w := fun _ _ ha he => wp_exit ⟨ha, he ▸ h⟩
theorem Wp_ret (h : Q .ret σ w) : Wp P N .ret Q σ w := fun _ _ ha he => wp_ret ⟨ha, he ▸ h⟩
theorem Wp_block {id : Nat} {c : Code} (h : Wp P N c (inB id Q) σ w) : Wp P N (.block id c) Q σ w := by
  intro dz a ha he
  refine wp_block (Code.wp_mono ?_ (h dz a ha he))
  rintro e a w ⟨o, q⟩
  cases e with
  | exit j =>
    unfold Exit.inBlock
    unfold inB at q
    by_cases hj : j = id
    · simp only [hj, if_true] at q ⊢; exact ⟨o, q⟩
    · simp only [hj, if_false] at q ⊢; exact ⟨o, q⟩
  | normal => exact ⟨o, q⟩
  | goto l => exact ⟨o, q⟩
  | ret => exact ⟨o, q⟩
  | panic c => exact ⟨o, q⟩
  | outgrown => exact ⟨o, q⟩
theorem Wp_cond {c : Operand} {x y : Code} {b : Bool} (hc : ev σ c = .bool b) (ht : b = true → Wp P N x Q σ w) (hf : b = false → Wp P N y Q σ w) :
    Wp P N (.cond c x y) Q σ w := by
  intro dz a ha he
  refine wp_cond_split (t := b) (by rw [eval_env, he]; exact hc) (fun h => ht h dz a ha he) (fun h => hf h dz a ha he)
theorem Wp_cond_true {c : Operand} {x y : Code} (hc : ev σ c = .bool true) (h : Wp P N x Q σ w) : Wp P N (.cond c x y) Q σ w :=
  Wp_cond hc (fun _ => h) (fun h => by cases h)
theorem Wp_cond_false {c : Operand} {x y : Code} (hc : ev σ c = .bool false) (h : Wp P N y Q σ w) : Wp P N (.cond c x y) Q σ w :=
  Wp_cond hc (fun h => by cases h) (fun _ => h)
/-- A loop, by a relation that is indexed by a number that falls in every round. -/
theorem Wp_loop {c : Code} (I : Nat → Env → World → Prop) {n : Nat} (h0 : I n σ w)
    (round : ∀ n σ w, I n σ w → Wp P N c (thn (fun σ' w' => ∃ m, m < n ∧ I m σ' w') Q) σ w) : Wp P N (.loop c) Q σ w := by
  intro dz a ha he b k cs
  have key : ∀ n a w, Ok dz N a → I n (env a) w →
      ∃ e a' w', lift dz N Q e a' w' ∧ Arrives P (lone (b.at a (.code c :: .inLoop c :: k)) cs w) b k cs e a' w' := by
    intro n
    induction n using Nat.strongRecOn with
    | _ n ih =>
      intro a w ha hI
      obtain ⟨e, a1, w1, ⟨ho, hq⟩, harr⟩ := round n _ w hI dz a ha rfl b (.inLoop c :: k) cs
      cases e with
      | normal =>
        obtain ⟨m, hlt, hI1⟩ := hq
        obtain ⟨e2, a2, w2, hq2, harr2⟩ := ih m hlt a1 w1 ho hI1
        exact ⟨e2, a2, w2, hq2, .of_steps (Steps.trans harr (.one step_inLoop)) harr2⟩
      | exit id => exact ⟨_, a1, w1, ⟨ho, hq⟩, .pass (x := .inLoop c) rfl (fun _ _ => .inl (by simp)) harr⟩
      | goto l => exact ⟨_, a1, w1, ⟨ho, hq⟩, .pass (x := .inLoop c) rfl (fun _ _ => .inl (by simp)) harr⟩
      | ret => exact ⟨_, a1, w1, ⟨ho, hq⟩, .pass (x := .inLoop c) rfl (fun _ _ => .inl (by simp)) harr⟩
      | panic ch => exact ⟨_, a1, w1, ⟨ho, hq⟩, .pass (x := .inLoop c) rfl (fun _ _ => .inl (by simp)) harr⟩
      | outgrown => exact ⟨_, a1, w1, ⟨ho, hq⟩, .pass (x := .inLoop c) rfl (fun _ _ => .inl (by simp)) harr⟩
  obtain ⟨e, a', w', hq, harr⟩ := key n a w ha (he ▸ h0)
  exact ⟨e, a', w', hq, .of_steps (.one step_loop) harr⟩
end
def WpL (P : Program) (N : Nat) (ops : Array Oper) (K : Env → World → Prop) (Q : Post) (l : List Oper) (σ : Env) (w : World) : Prop :=
  ∀ dz a, Ok dz N a → env a = σ → wpList P ops (lift dz N (thn K Q)) l a w
section
variable {P : Program} {N : Nat} {Q : Post} {σ : Env} {w : World} {K : Env → World → Prop} {ops : Array Oper} {rest : List Oper}
theorem Wp_region {id : Nat} {l : List Oper} (h : WpL P N l.toArray (Q .normal) Q l σ w) : Wp P N (.region id l.toArray false) Q σ w := by
  intro dz a ha he
  refine wp_region_lit ?_
  have := h dz a ha he
  have e : lift dz N (thn (Q .normal) Q) = lift dz N Q := by funext e a w; cases e <;> rfl
  rwa [e] at this
theorem Wp_seq_region {id : Nat} {l : List Oper} {y : Code} (h : WpL P N l.toArray (Wp P N y Q) Q l σ w) : Wp P N (.seq (.region id l.toArray false) y) Q σ w := by
  refine Wp_seq ?_
  intro dz a ha he
  exact wp_region_lit (h dz a ha he)
theorem WpL_nil (h : K σ w) : WpL P N ops K Q [] σ w := fun dz a ha he => ⟨ha, by subst he; exact h⟩
theorem WpL_val {o : Oper} (hg : o.guard = none) {d : Nat} (hd : o.dst = some d) (hN : d < N) {v : Value} {w' : World}
    (hr : (execOp (ev σ) o).run P w = .ok (.value v) w') (k : WpL P N ops K Q rest (upd σ d v) w') : WpL P N ops K Q (o :: rest) σ w := by
  intro dz a ha he
  refine wpList_plain hg fun K' hK => ?_
  unfold Oper.wp
  rw [eval_env, he, hr]
  simp only [Oper.upon, hd]
  exact hK _ _ (k dz _ (ha.put _ _) (by rw [env_put ha hN, he]))
theorem WpL_skip {o : Oper} (hg : o.guard = none) (hd : o.dst = none) {w' : World}
    (hr : (execOp (ev σ) o).run P w = .ok .skip w') (k : WpL P N ops K Q rest σ w') : WpL P N ops K Q (o :: rest) σ w := by
  intro dz a ha he
  refine wpList_plain hg fun K' hK => ?_
  unfold Oper.wp
  rw [eval_env, he, hr]
  simp only [Oper.upon, hd]
  exact hK _ _ (k dz a ha he)
/-- The contract of a call: it returns a value, and what is said of it and of the world holds. -/
def Ret (P : Program) (f : FuncId) (args : Array Value) (w : World) (R : Value → World → Prop) : Prop :=
  Calls P f args w fun e w' => ∃ v, e = .returned v ∧ R v w'
theorem Ret.mono {f : FuncId} {args : Array Value} {R R' : Value → World → Prop} (h : Ret P f args w R) (hr : ∀ v w', R v w' → R' v w') : Ret P f args w R' :=
  Calls.mono h fun _ _ ⟨v, e, r⟩ => ⟨v, e, hr _ _ r⟩
theorem WpL_enter {o : Oper} (hg : o.guard = none) {d : Nat} (hd : o.dst = some d) (hN : d < N) {f : FuncId} {args : Array Value} {R : Value → World → Prop}
    (hr : (execOp (ev σ) o).run P w = .ok (.enter f args) w) (hc : Ret P f args w R) (k : ∀ v w', R v w' → WpL P N ops K Q rest (upd σ d v) w') : WpL P N ops K Q (o :: rest) σ w := by
  intro dz a ha he
  refine wpList_plain hg fun K' hK => ?_
  unfold Oper.wp
  rw [eval_env, he, hr]
  simp only [Oper.upon, hd]
  refine Calls.mono hc ?_
  rintro e w' ⟨v, rfl, r⟩
  exact hK _ _ (k v w' r dz _ (ha.put _ _) (by rw [env_put ha hN, he]))
/-- An operation that is guarded: carried out. -/
theorem WpL_guard_yes {dst : Option Tmp} {op : Op} {ty : TypeId} {pos : String} {af : Array Edge} {j : Nat} {b : Bool} {oj : Oper} {dj : Nat}
    (hj : ops[j]? = some oj) (hdj : oj.dst = some dj) (hN : dj < N) (hy : σ dj = .bool b)
    (k : WpL P N ops K Q (⟨dst, op, ty, pos, af, none⟩ :: rest) σ w) : WpL P N ops K Q (⟨dst, op, ty, pos, af, some (j, b)⟩ :: rest) σ w := by
  intro dz a ha he
  have h1 := k dz a ha he
  have hw : Region.wanted ⟨dst, op, ty, pos, af, some (j, b)⟩ (yielded ops a.tmps) = true := by
    simp only [Region.wanted, yielded, hj, hdj, Option.bind_some]
    have : a.tmps[dj]? = some (Value.bool b) := by
      have h2 : a.tmps.getD dj undef = .bool b := by rw [← hy, ← he]; rfl
      have hlt : dj < a.tmps.size := by rw [ha.size]; exact hN
      rw [Array.getElem?_eq_getElem hlt]
      simpa [hlt] using h2
    simp [this]
  unfold wpList at h1 ⊢
  rw [if_pos hw]
  rw [if_pos (by rfl)] at h1
  exact h1
/-- An operation that is guarded: passed over. -/
theorem WpL_guard_no {d : Nat} {op : Op} {ty : TypeId} {pos : String} {af : Array Edge} {j : Nat} {b : Bool} {oj : Oper} {dj : Nat} {v : Value}
    (hj : ops[j]? = some oj) (hdj : oj.dst = some dj) (hd : d < N) (hy : σ dj = v) (hv : v = .bool (!b) ∨ v = undef)
    (k : WpL P N ops K Q rest (upd σ d undef) w) : WpL P N ops K Q (⟨some d, op, ty, pos, af, some (j, b)⟩ :: rest) σ w := by
  intro dz a ha he
  have hw : Region.wanted ⟨some d, op, ty, pos, af, some (j, b)⟩ (yielded ops a.tmps) = false := by
    simp only [Region.wanted, yielded, hj, hdj, Option.bind_some]
    have h2 : a.tmps.getD dj undef = v := by rw [← hy, ← he]; rfl
    cases hx : a.tmps[dj]? with
    | none => simp
    | some u =>
      have : u = v := by simpa [hx] using h2
      subst this
      rcases hv with rfl | rfl
      · cases b <;> simp
      · simp [undef]
  unfold wpList
  rw [hw, if_neg (by simp)]
  exact k dz _ (ha.put _ _) (by rw [env_put ha hd, he])
/-- An operation that is guarded, whether it is carried out or not. -/
theorem WpL_guard_any {d : Nat} {op : Op} {ty : TypeId} {pos : String} {af : Array Edge} {j : Nat} {b : Bool} {oj : Oper} {dj : Nat} {gv u : Value}
    (hj : ops[j]? = some oj) (hdj : oj.dst = some dj) (hN : dj < N) (hd : d < N) (hy : σ dj = gv)
    (h : (gv = .bool b ∧ (execOp (ev σ) ⟨some d, op, ty, pos, af, none⟩).run P w = .ok (.value u) w) ∨ ((gv = .bool (!b) ∨ gv = undef) ∧ u = undef))
    (k : WpL P N ops K Q rest (upd σ d u) w) : WpL P N ops K Q (⟨some d, op, ty, pos, af, some (j, b)⟩ :: rest) σ w := by
  rcases h with ⟨h1, h2⟩ | ⟨h1, rfl⟩
  · exact WpL_guard_yes hj hdj hN (hy.trans h1) (WpL_val rfl rfl hd h2 k)
  · exact WpL_guard_no hj hdj hd hy h1 k
end
def fin (P : Program) (fn : Func) (R : Value → World → Prop) : Post
  | .normal, σ, w | .ret, σ, w => ∃ v, (∀ a : Act, env a = σ → (results fn a.tmps).run P w = .ok v w) ∧ R v w
  | _, _, _ => False
theorem Ret_of {P : Program} {f : FuncId} {fn : Func} {c : Code} {N : Nat} {args : Array Value} {w : World} {R : Value → World → Prop}
    (hf : P.funcs[f]? = some fn) (hb : fn.body = some c) (hn : fn.ntmps = N) (hsz : args.size ≤ N)
    (h : Wp P N c (fin P fn R) (fun t => args.getD t undef) w) : Ret P f args w R := by
  refine calls_of_wp hf hb ?_
  refine Code.wp_mono ?_ (h [] _ ⟨?_, rfl⟩ ?_)
  · rintro e a w ⟨o, q⟩
    cases e <;> simp only [fin] at q
    · obtain ⟨v, hv, r⟩ := q; exact ⟨o.defers, v, hv a rfl, v, rfl, r⟩
    · obtain ⟨v, hv, r⟩ := q; exact ⟨o.defers, v, hv a rfl, v, rfl, r⟩
  · simp [hn]; omega
  · funext t
    simp only [env, Array.getD_eq_getD_getElem?, Array.getElem?_append]
    split
    · rfl
    · rename_i hlt
      rw [Array.getElem?_replicate, Array.getElem?_eq_none (xs := args) (by omega)]
      split <;> rfl
theorem fin_tmp {P : Program} {fn : Func} {R : Value → World → Prop} {t : Nat} (hr : fn.results = #[.tmp t]) {σ : Env} {w : World} {v : Value} (hv : σ t = v) (h : R v w) : fin P fn R .ret σ w :=
  ⟨v, fun a ha => by rw [results_tmp hr]; subst ha; rw [← hv]; rfl, h⟩
theorem fin_tmp2 {P : Program} {fn : Func} {R : Value → World → Prop} {t u : Nat} (hr : fn.results = #[.tmp t, .tmp u]) {σ : Env} {w : World} {v v' : Value} (hv : σ t = v) (hv' : σ u = v') (h : R (.tuple #[v, v']) w) : fin P fn R .ret σ w :=
  ⟨.tuple #[v, v'], fun a ha => by rw [results_tmp2 hr]; subst ha; rw [← hv, ← hv']; rfl, h⟩
theorem fin_none {P : Program} {fn : Func} {R : Value → World → Prop} (hr : fn.results = #[]) {σ : Env} {w : World} (h : R (.tuple #[]) w) : fin P fn R .normal σ w :=
  ⟨.tuple #[], fun a ha => by rw [results_none hr], h⟩
theorem fin_noneR {P : Program} {fn : Func} {R : Value → World → Prop} (hr : fn.results = #[]) {σ : Env} {w : World} (h : R (.tuple #[]) w) : fin P fn R .ret σ w :=
  ⟨.tuple #[], fun a ha => by rw [results_none hr], h⟩
end Go.Eng
namespace Go.Eng
open Go
class Drw where
  D : Prop
set_option linter.unusedSectionVars false
variable [Drw]
def Dr (w w' : World) : Prop := Drw.D → w.drawn ≤ w'.drawn
theorem Dr.of {w w' : World} (h : w.drawn ≤ w'.drawn) : Dr w w' := fun _ => h
theorem Dr.trans {a b c : World} (h : Dr a b) (k : Dr b c) : Dr a c := fun d => Nat.le_trans (h d) (k d)
/-- From w to w' only blocks in M may have changed, and blocks may have been made. -/
structure Chg (M : Nat → Prop) (w w' : World) : Prop where
  os : w'.os = w.os
  tape : w'.tape = w.tape
  output : w'.output = w.output
  drw : Dr w w'
  size : w.heap.size ≤ w'.heap.size
  blk : ∀ b, b < w.heap.size → ¬ M b → w'.heap[b]? = w.heap[b]?
def none1 : Nat → Prop := fun _ => False
def Ext (w w' : World) : Prop := Chg none1 w w'
def Blk (w : World) (b : Nat) (c : Array Value) (t : TypeId) : Prop := w.heap[b]? = some (.cells c t (0, 0))
theorem Chg.refl (M : Nat → Prop) (w : World) : Chg M w w := ⟨rfl, rfl, rfl, .of (Nat.le_refl _), Nat.le_refl _, fun _ _ _ => rfl⟩
theorem Ext.refl (w : World) : Ext w w := Chg.refl _ w
theorem Chg.step {M M' : Nat → Prop} {a b c : World} (h : Chg M a b) (k : Chg M' b c) (hm : ∀ x, x < a.heap.size → M' x → M x) : Chg M a c :=
  ⟨k.os.trans h.os, k.tape.trans h.tape, k.output.trans h.output, Dr.trans h.drw k.drw, Nat.le_trans h.size k.size,
    fun x hx hn => (k.blk x (Nat.lt_of_lt_of_le hx h.size) (fun hm' => hn (hm x hx hm'))).trans (h.blk x hx hn)⟩
theorem Chg.trans {M : Nat → Prop} {a b c : World} (h : Chg M a b) (k : Chg M b c) : Chg M a c := h.step k fun _ _ x => x
theorem Chg.ext {M : Nat → Prop} {a b c : World} (h : Chg M a b) (k : Ext b c) : Chg M a c := h.step k fun _ _ x => x.elim
theorem Ext.trans {a b c : World} (h : Ext a b) (k : Ext b c) : Ext a c := Chg.trans h k
theorem Ext.chg {M : Nat → Prop} {a b : World} (h : Ext a b) : Chg M a b := ⟨h.os, h.tape, h.output, h.drw, h.size, fun x hx _ => h.blk x hx (fun f => f)⟩
theorem Chg.mono {M M' : Nat → Prop} {a b : World} (h : Chg M a b) (hm : ∀ x, x < a.heap.size → M x → M' x) : Chg M' a b :=
  ⟨h.os, h.tape, h.output, h.drw, h.size, fun x hx hn => h.blk x hx fun m => hn (hm x hx m)⟩
theorem Blk.lt {w : World} {b : Nat} {c : Array Value} {t : TypeId} (h : Blk w b c t) : b < w.heap.size := (Array.getElem?_eq_some_iff.1 h).1
theorem Chg.keep {M : Nat → Prop} {w w' : World} (h : Chg M w w') {b : Nat} {c : Array Value} {t : TypeId} (hm : ¬ M b) (hb : Blk w b c t) : Blk w' b c t :=
  (h.blk b hb.lt hm).trans hb
theorem Ext.keep {w w' : World} (h : Ext w w') {b : Nat} {c : Array Value} {t : TypeId} (hb : Blk w b c t) : Blk w' b c t := Chg.keep h (fun f => f) hb
theorem Chg.cell {M : Nat → Prop} {w w' : World} (h : Chg M w w') {a : Addr} {v : Value} (hm : ¬ M a.block) (hc : w.cell? a = some v) : w'.cell? a = some v :=
  (World.cell?_of_block (w := w) (h.blk a.block (World.block_lt_of_cell? w a hc) hm)).trans hc
theorem Ext.cell {w w' : World} (h : Ext w w') {a : Addr} {v : Value} (hc : w.cell? a = some v) : w'.cell? a = some v := Chg.cell h (fun f => f) hc
theorem Blk.cell {w : World} {b : Nat} {c : Array Value} {t : TypeId} (h : Blk w b c t) {o : Nat} {v : Value} (hv : c[o]? = some v) : w.cell? ⟨b, o, none⟩ = some v := by
  unfold Blk at h
  simp [World.cell?, h, hv]
theorem Ext.below {w w' : World} (h : Ext w w') : RowKit.Below w.heap.size w w' := ⟨h.os, h.tape, h.output, h.size, fun k hk => h.blk k hk fun f => f⟩
theorem Ext.of_below {w w' : World} (h : RowKit.Below w.heap.size w w') (hd : w.drawn ≤ w'.drawn) : Ext w w' := ⟨h.os, h.tape, h.output, .of hd, h.size, fun k hk _ => h.block k hk⟩
/-- What only made blocks, as a world that has grown. -/
abbrev ExtT (w w' : World) : Prop := @Ext ⟨True⟩ w w'
theorem ExtT.dr {w w' : World} (h : ExtT w w') : w.drawn ≤ w'.drawn := @Chg.drw ⟨True⟩ _ _ _ h trivial
theorem Ext.grown {w w' : World} (h : ExtT w w') : ∃ q os, w' = Sort.grow (w.drewN q) os := by
  refine ⟨w'.drawn - w.drawn, w'.heap.extract w.heap.size w'.heap.size, ?_⟩
  have h4 := ExtT.dr h
  obtain ⟨h1, h2, h3, _, h5, h6⟩ := h
  obtain ⟨hp, tp, dr, o, ou⟩ := w'
  obtain ⟨hp', tp', dr', o', ou'⟩ := w
  simp only at h1 h2 h3 h4 h5 h6
  subst h1; subst h2; subst h3
  simp only [Sort.grow, World.drewN, World.mk.injEq, and_true, true_and]
  refine ⟨?_, by omega⟩
  apply Array.ext_getElem?
  intro i
  rw [Array.getElem?_append]
  by_cases hi : i < hp'.size
  · rw [if_pos hi]; exact h6 i hi fun f => f
  · rw [if_neg hi, Array.getElem?_extract]
    by_cases h7 : i < hp.size
    · rw [if_pos (by omega)]; congr 1; omega
    · rw [if_neg (by omega), Array.getElem?_eq_none (by omega)]
/-- A new block. -/
structure New (w w' : World) (b : Nat) (c : Array Value) (t : TypeId) : Prop where
  blk : Blk w' b c t
  ext : Ext w w'
  eq : b = w.heap.size
  size : w'.heap.size = w.heap.size + 1
theorem New.mk' (w : World) (c : Array Value) (t : TypeId) : New w { w with heap := w.heap.push (.cells c t (0, 0)) } w.heap.size c t :=
  ⟨by unfold Blk; simp, ⟨rfl, rfl, rfl, .of (Nat.le_refl _), by simp, fun x hx _ => by simp [Array.getElem?_push, Nat.ne_of_lt hx]⟩, rfl, by simp⟩
theorem New.keep {w w' : World} {b : Nat} {c : Array Value} {t : TypeId} (h : New w w' b c t) {b' : Nat} {c' : Array Value} {t' : TypeId} (hb : Blk w b' c' t') : Blk w' b' c' t' := h.ext.keep hb
theorem New.lt {w w' : World} {b : Nat} {c : Array Value} {t : TypeId} (h : New w w' b c t) {b' : Nat} {c' : Array Value} {t' : TypeId} (hb : Blk w b' c' t') : b' < b := by rw [h.eq]; exact hb.lt
theorem New.ge {w0 w w' : World} {b : Nat} {c : Array Value} {t : TypeId} (h : New w w' b c t) {M : Nat → Prop} (e : Chg M w0 w) : w0.heap.size ≤ b := by rw [h.eq]; exact e.size
/-- A block is written. -/
structure Put (w w' : World) (b : Nat) (c : Array Value) (t : TypeId) : Prop where
  blk : Blk w' b c t
  chg : Chg (fun x => x = b) w w'
  size : w'.heap.size = w.heap.size
theorem Put.of_setRow {w : World} {b : Nat} {c : Array Value} {t : TypeId} (h : Blk w b c t) (c' : Array Value) : Put w (w.setRow b c') b c' t :=
  ⟨setRow_heap w b c c' t _ h, ⟨rfl, rfl, rfl, .of (Nat.le_refl _), by simp [World.setRow], fun x _ hn => setRow_other w b x c' hn⟩, by simp [World.setRow]⟩
theorem Put.keep {w w' : World} {b : Nat} {c : Array Value} {t : TypeId} (h : Put w w' b c t) {b' : Nat} {c' : Array Value} {t' : TypeId} (hne : b' ≠ b) (hb : Blk w b' c' t') : Blk w' b' c' t' := h.chg.keep hne hb
theorem Put.ext {w0 w w' : World} {b : Nat} {c : Array Value} {t : TypeId} (h : Put w w' b c t) {M : Nat → Prop} (e : Chg M w0 w) (hb : w0.heap.size ≤ b) : Chg M w0 w' :=
  e.step h.chg fun x hx hm => by subst hm; omega
theorem Put.step {w0 w w' : World} {b : Nat} {c : Array Value} {t : TypeId} (h : Put w w' b c t) {M : Nat → Prop} (e : Chg M w0 w) (hb : w0.heap.size ≤ b ∨ M b) : Chg M w0 w' :=
  e.step h.chg fun x hx hm => by subst hm; rcases hb with hb | hb; omega; exact hb
/-- Cells in a row. -/
def CellsAt (w : World) (b o : Nat) (vs : List Value) : Prop := ∀ i v, vs[i]? = some v → w.cell? ⟨b, o + i, none⟩ = some v
theorem CellsAt.chg {M : Nat → Prop} {w w' : World} {b o : Nat} {vs : List Value} (h : CellsAt w b o vs) (e : Chg M w w') (hm : ¬ M b) : CellsAt w' b o vs :=
  fun i v hv => e.cell hm (h i v hv)
theorem CellsAt.ext {w w' : World} {b o : Nat} {vs : List Value} (h : CellsAt w b o vs) (e : Ext w w') : CellsAt w' b o vs := h.chg e fun f => f
theorem Blk.cells {w : World} {b : Nat} {c : Array Value} {t : TypeId} (h : Blk w b c t) {o : Nat} {vs : List Value} (hv : (c.toList.drop o).take vs.length = vs) : CellsAt w b o vs := by
  intro i v hi
  refine h.cell ?_
  have hlt : i < vs.length := by
    rcases Nat.lt_or_ge i vs.length with h | h
    · exact h
    · simp [List.getElem?_eq_none h] at hi
  rw [← hv, List.getElem?_take_of_lt hlt, List.getElem?_drop] at hi
  simpa using hi
def Siz (P : Program) (t : TypeId) (n : Nat) : Prop := (P.info? t).map (fun i => i.size) = some n
def Byt (P : Program) (t : TypeId) (n : Nat) : Prop := (P.info? t).map (fun i => i.bytes) = some n
def Zer (P : Program) (t : TypeId) (z : Value) : Prop := (P.info? t).bind (fun i => i.zero) = some z
def flatB (P : Program) (t : TypeId) : Bool := match P.underlying t with
  | some (.struct _) | some (.array _ _) | none => false
  | some _ => true
def aggB (P : Program) (t : TypeId) : Bool := match P.underlying t with
  | some (.struct _) | some (.array _ _) => true
  | _ => false
theorem Siz.run {P : Program} {t : TypeId} {n : Nat} (h : Siz P t n) (w : World) : (sizeOf t).run P w = .ok n w := by
  unfold Siz at h
  cases hi : P.info? t with
  | none => simp [hi] at h
  | some i => simp [hi] at h; simp [sizeOf, typeInfo, hi, h]
theorem Zer.run {P : Program} {t : TypeId} {z : Value} (h : Zer P t z) (w : World) : (zeroValue t).run P w = .ok z w := by
  unfold Zer at h
  cases hi : P.info? t with
  | none => simp [hi] at h
  | some i => simp [hi] at h; simp [zeroValue, typeInfo, hi, h]
theorem flatB.run {P : Program} {t : TypeId} (h : flatB P t = true) (w : World) : (isAgg t).run P w = .ok false w := by
  unfold flatB at h
  cases hi : P.underlying t with
  | none => simp [hi] at h
  | some d => cases d <;> simp [hi] at h <;> simp [isAgg, run_underlying hi]
theorem aggB.run {P : Program} {t : TypeId} (h : aggB P t = true) (w : World) : (isAgg t).run P w = .ok true w := by
  unfold aggB at h
  cases hi : P.underlying t with
  | none => simp [hi] at h
  | some d => cases d <;> simp [hi] at h <;> simp [isAgg, run_underlying hi]
section
variable {P : Program} {σ : Env} {w : World} {dst : Option Tmp} {ty : TypeId} {pos : String} {af : Array Edge} {g : Option (Nat × Bool)}
theorem r_move {x : Operand} {v : Value} (hx : ev σ x = v) : (execOp (ev σ) ⟨dst, .move x, ty, pos, af, g⟩).run P w = .ok (.value v) w := by subst hx; rfl
theorem r_assign {x : Operand} {v : Value} (hx : ev σ x = v) : (execOp (ev σ) ⟨dst, .assign x, ty, pos, af, g⟩).run P w = .ok (.value v) w := by subst hx; rfl
theorem r_pick {c x y : Operand} {b : Bool} {v : Value} (hc : ev σ c = .bool b) (hv : (if b then ev σ x else ev σ y) = v) : (execOp (ev σ) ⟨dst, .pick c x y, ty, pos, af, g⟩).run P w = .ok (.value v) w := by
  subst hv; simp only [execOp, hc, asBool]; cases b <;> rfl
theorem r_nilCheck {x : Operand} {a : Addr} (hx : ev σ x = .pointer (some a)) : (execOp (ev σ) ⟨dst, .nilCheck x, ty, pos, af, g⟩).run P w = .ok (.value (.pointer (some a))) w := by
  simp only [execOp, hx]; rfl
theorem r_not {t : TypeId} {x : Operand} {b : Bool} (hx : ev σ x = .bool b) : (execOp (ev σ) ⟨dst, .unOp .not t x, ty, pos, af, g⟩).run P w = .ok (.value (.bool (!b))) w := by
  simp only [execOp, hx]; rfl
theorem r_convInt {s t : TypeId} {x : Operand} {k k' : IntKind} {n c : Int} (hs : ∃ d, P.underlying s = some d) (ht : P.underlying t = some (.int k')) (hx : ev σ x = .int k n) (hw : k'.wrap n = c) :
    (execOp (ev σ) ⟨dst, .convert s t x, ty, pos, af, g⟩).run P w = .ok (.value (.int k' c)) w := by
  obtain ⟨d, hd⟩ := hs
  subst hw; simp only [execOp, hx, convert, Sem.run_bind, run_underlying hd, run_underlying ht, Result.andThen_ok]; rfl
variable {t t' : TypeId} {x y : Operand} {k : IntKind} {a b c : Int}
theorem r_add (hx : ev σ x = .int k a) (hy : ev σ y = .int k b) (hw : k.wrap (a + b) = c) : (execOp (ev σ) ⟨dst, .binOp .add t x y t', ty, pos, af, g⟩).run P w = .ok (.value (.int k c)) w := by
  subst hw; simp only [execOp, hx, hy, eqGuard, binOp]; simp [Op.intArith]
theorem r_sub (hx : ev σ x = .int k a) (hy : ev σ y = .int k b) (hw : k.wrap (a - b) = c) : (execOp (ev σ) ⟨dst, .binOp .sub t x y t', ty, pos, af, g⟩).run P w = .ok (.value (.int k c)) w := by
  subst hw; simp only [execOp, hx, hy, eqGuard, binOp]; simp [Op.intArith]
theorem r_mul (hx : ev σ x = .int k a) (hy : ev σ y = .int k b) (hw : k.wrap (a * b) = c) : (execOp (ev σ) ⟨dst, .binOp .mul t x y t', ty, pos, af, g⟩).run P w = .ok (.value (.int k c)) w := by
  subst hw; simp only [execOp, hx, hy, eqGuard, binOp]; simp [Op.intArith]
theorem r_lss (hx : ev σ x = .int k a) (hy : ev σ y = .int k b) : (execOp (ev σ) ⟨dst, .binOp .lss t x y t', ty, pos, af, g⟩).run P w = .ok (.value (.bool (decide (a < b)))) w := by
  simp only [execOp, hx, hy, eqGuard, binOp]; simp [Op.intCmp]
theorem r_leq (hx : ev σ x = .int k a) (hy : ev σ y = .int k b) : (execOp (ev σ) ⟨dst, .binOp .leq t x y t', ty, pos, af, g⟩).run P w = .ok (.value (.bool (decide (a ≤ b)))) w := by
  simp only [execOp, hx, hy, eqGuard, binOp]; simp [Op.intCmp]
theorem r_gtr (hx : ev σ x = .int k a) (hy : ev σ y = .int k b) : (execOp (ev σ) ⟨dst, .binOp .gtr t x y t', ty, pos, af, g⟩).run P w = .ok (.value (.bool (decide (b < a)))) w := by
  simp only [execOp, hx, hy, eqGuard, binOp]; simp [Op.intCmp]
theorem r_geq (hx : ev σ x = .int k a) (hy : ev σ y = .int k b) : (execOp (ev σ) ⟨dst, .binOp .geq t x y t', ty, pos, af, g⟩).run P w = .ok (.value (.bool (decide (b ≤ a)))) w := by
  simp only [execOp, hx, hy, eqGuard, binOp]; simp [Op.intCmp]
theorem r_eql (hx : ev σ x = .int k a) (hy : ev σ y = .int k b) : (execOp (ev σ) ⟨dst, .binOp .eql t x y t', ty, pos, af, g⟩).run P w = .ok (.value (.bool (decide (a = b)))) w := by
  have : (a == b) = decide (a = b) := by rw [Bool.eq_iff_iff]; simp
  rw [← this]; simp only [execOp, hx, hy, eqGuard, binOp]; simp [Op.intCmp]
theorem r_neq (hx : ev σ x = .int k a) (hy : ev σ y = .int k b) : (execOp (ev σ) ⟨dst, .binOp .neq t x y t', ty, pos, af, g⟩).run P w = .ok (.value (.bool (decide (a ≠ b)))) w := by
  have : (a != b) = decide (a ≠ b) := by rw [Bool.eq_iff_iff]; simp
  rw [← this]; simp only [execOp, hx, hy, eqGuard, binOp]; simp [Op.intCmp]
theorem equalIn_bool {p q : Bool} (d : Nat) (hu : P.underlying t = some .bool) : (Op.equalIn (d + 1) t (.bool p) (.bool q)).run P w = .ok (p == q) w := by
  simp only [Op.equalIn, Sem.run_bind, run_underlying hu, Result.andThen_ok]; rfl
theorem r_eqlB {p q : Bool} (hu : P.underlying t = some .bool) (hx : ev σ x = .bool p) (hy : ev σ y = .bool q) : (execOp (ev σ) ⟨dst, .binOp .eql t x y t', ty, pos, af, g⟩).run P w = .ok (.value (.bool (p == q))) w := by
  have h := equalIn_bool (P := P) (w := w) (p := p) (q := q) 9999 hu
  simp only [execOp, hx, hy, eqGuard, binOp, Op.equal, Op.maxDepth]; simp [h]
theorem r_bits {op : BinOp} {v : Value} (hx : ev σ x = .int k a) (hy : ev σ y = .int k b) (ho : op = .and ∨ op = .or ∨ op = .xor ∨ op = .andNot) (hv : (Op.intBits op k a b).run P w = .ok v w) :
    (execOp (ev σ) ⟨dst, .binOp op t x y t', ty, pos, af, g⟩).run P w = .ok (.value v) w := by
  rcases ho with rfl | rfl | rfl | rfl <;> (simp only [execOp, hx, hy, eqGuard, binOp]; simp [hv])
theorem r_shl {k' : IntKind} (hx : ev σ x = .int k a) (hy : ev σ y = .int k' b) (h0 : 0 ≤ b) (hw : k.wrap (a * 2 ^ (min b.toNat k.bits)) = c) :
    (execOp (ev σ) ⟨dst, .binOp .shl t x y t', ty, pos, af, g⟩).run P w = .ok (.value (.int k c)) w := by
  subst hw; simp only [execOp, hx, hy, eqGuard, binOp]; simp [Op.shift, Int.not_lt.2 h0]
theorem r_shr {k' : IntKind} (hx : ev σ x = .int k a) (hy : ev σ y = .int k' b) (h0 : 0 ≤ b) (hw : a.fdiv (2 ^ (min b.toNat k.bits)) = c) :
    (execOp (ev σ) ⟨dst, .binOp .shr t x y t', ty, pos, af, g⟩).run P w = .ok (.value (.int k c)) w := by
  subst hw; simp only [execOp, hx, hy, eqGuard, binOp]; simp [Op.shift, Int.not_lt.2 h0]
theorem r_lenSlice {e : TypeId} {ad : Option Addr} {n cap : Nat} (hu : P.underlying t = some (.slice e)) (hx : ev σ x = .slice ad n cap) :
    (execOp (ev σ) ⟨dst, .call ⟨.builtin .len, #[x], #[t]⟩, ty, pos, af, g⟩).run P w = .ok (.value (.int .i64 n)) w := by
  simp only [execOp, resolve, List.map_toArray, List.map_cons, List.map_nil, hx]
  simp [invoke, builtin, Builtin.len_, run_underlying hu, goInt]
theorem r_lenString {s : ByteArray} (hu : P.underlying t = some .string) (hx : ev σ x = .string s) :
    (execOp (ev σ) ⟨dst, .call ⟨.builtin .len, #[x], #[t]⟩, ty, pos, af, g⟩).run P w = .ok (.value (.int .i64 s.size)) w := by
  simp only [execOp, resolve, List.map_toArray, List.map_cons, List.map_nil, hx]
  simp [invoke, builtin, Builtin.len_, run_underlying hu, goInt]
theorem r_fieldAddr {fs : Array Field} {f : Field} {i n b o o' : Nat} (hx : ev σ x = .pointer (some ⟨b, o, none⟩)) (hu : P.underlying t = some (.struct fs)) (hf : fs[i]? = some f) (hs : Siz P f.type (n + 1)) (ho : o + f.offset = o') :
    (execOp (ev σ) ⟨dst, .fieldAddr t x i, ty, pos, af, g⟩).run P w = .ok (.value (.pointer (some ⟨b, o', none⟩))) w := by
  subst ho
  simp [execOp, hx, Instr.fieldAt, run_underlying hu, hf, Instr.sureAddr, fieldPlace, hs.run, Addr.add_lit]
theorem r_indexSlice {e : TypeId} {n b o o' len cap i : Nat} {k : IntKind} {a : Int} (hx : ev σ x = .slice (some ⟨b, o, none⟩) len cap) (hy : ev σ y = .int k a) (ha : a = (i : Int)) (hu : P.underlying t = some (.slice e)) (hs : Siz P e n) (hi : i < len) (ho : o + i * n = o') :
    (execOp (ev σ) ⟨dst, .indexAddr t x y, ty, pos, af, g⟩).run P w = .ok (.value (.pointer (some ⟨b, o', none⟩))) w := by
  subst ho; subst ha
  have h1 : (0 : Int) ≤ (i : Int) ∧ (i : Int) < (len : Int) := by omega
  simp [execOp, hx, hy, Instr.indexAt, asIntOf, run_underlying hu, hs.run, Addr.add_lit, hi]
theorem r_indexArr {e : TypeId} {n b o o' len i : Nat} {k : IntKind} {a : Int} (hx : ev σ x = .pointer (some ⟨b, o, none⟩)) (hy : ev σ y = .int k a) (ha : a = (i : Int)) (hu : P.underlying t = some (.array len e)) (hs : Siz P e n) (hi : i < len) (ho : o + i * n = o') :
    (execOp (ev σ) ⟨dst, .indexAddr t x y, ty, pos, af, g⟩).run P w = .ok (.value (.pointer (some ⟨b, o', none⟩))) w := by
  subst ho; subst ha
  simp [execOp, hx, hy, Instr.indexAt, Instr.sureAddr, asIntOf, run_underlying hu, hs.run, Addr.add_lit, hi]
theorem r_load {ad : Addr} {v : Value} (hx : ev σ x = .pointer (some ad)) (hf : flatB P t = true) (hc : w.cell? ad = some v) :
    (execOp (ev σ) ⟨dst, .load t x, ty, pos, af, g⟩).run P w = .ok (.value v) w := by
  simp [execOp, hx, Instr.loadAt, Instr.sureAddr, loadVar, flatB.run hf, hc]
theorem r_loadAgg {b o n : Nat} {vs : List Value} (hx : ev σ x = .pointer (some ⟨b, o, none⟩)) (hf : aggB P t = true) (hs : Siz P t n) (hn : vs.length = n) (hc : CellsAt w b o vs) :
    (execOp (ev σ) ⟨dst, .load t x, ty, pos, af, g⟩).run P w = .ok (.value (.agg vs.toArray)) w := by
  subst hn
  have h1 := run_loadCells_list (P := P) w ⟨b, o, none⟩ vs (fun j v hj => by rw [Addr.add_lit]; exact hc j v hj)
  simp [execOp, hx, Instr.loadAt, Instr.sureAddr, loadVar, aggB.run hf, hs.run, h1]
theorem r_makeFunc {fn : Fn} {first captured : List Operand} {vs us : List Value} (h1 : first.map (ev σ) = vs) (h2 : captured.map (ev σ) = us) :
    (execOp (ev σ) ⟨dst, .makeFunc fn first.toArray captured.toArray, ty, pos, af, g⟩).run P w = .ok (.value (.func fn vs.toArray us.toArray)) w := by
  subst h1; subst h2; simp [execOp, Instr.makeFunc]
theorem r_extract {i : Nat} {vs : Array Value} {v : Value} (hx : ev σ x = .tuple vs) (hv : vs[i]? = some v) :
    (execOp (ev σ) ⟨dst, .extract x i, ty, pos, af, g⟩).run P w = .ok (.value v) w := by
  simp [execOp, hx, Instr.extract, hv]
theorem r_build {parts : List (Nat × Operand)} {ps : List (Nat × Value)} {v : Value} (hp : (parts.map fun (i, x) => (i, ev σ x)) = ps) (hb : (Instr.build t ps.toArray).run P w = .ok v w) :
    (execOp (ev σ) ⟨dst, .build t parts.toArray, ty, pos, af, g⟩).run P w = .ok (.value v) w := by
  subst hp; simp [execOp, hb]
theorem run_callF {f : FuncId} {fn : Func} {vs : Array Value} (hf : P.funcs[f]? = some fn) (hn : (fn.name == "runtime.NumGoroutine") = false) (hb : fn.body.isNone = false) :
    (callFunc f vs).run P w = .ok (.enter f vs) w := by
  simp only [callFunc, Sem.run_bind, run_program, Result.andThen_ok, hf, hn, hb, Bool.false_eq_true, if_false]; rfl
/-- The call of a function of the program by its number. -/
theorem r_callF {f : FuncId} {fn : Func} {args : List Operand} {tys : Array TypeId} {vs : List Value} (hf : P.funcs[f]? = some fn) (hn : (fn.name == "runtime.NumGoroutine") = false) (hb : fn.body.isNone = false) (ha : args.map (ev σ) = vs) :
    (execOp (ev σ) ⟨dst, .call ⟨.value (.func f), args.toArray, tys⟩, ty, pos, af, g⟩).run P w = .ok (.enter f vs.toArray) w := by
  subst ha; simp [execOp, resolve, ev, Deferred.ofValue, invoke, run_callF hf hn hb]
/-- The call of a function value. -/
theorem r_callV {f : FuncId} {fn : Func} {z : Operand} {args : List Operand} {tys : Array TypeId} {first cap ws : Array Value} {vs : List Value} (hz : ev σ z = .func (.func f) first cap) (hf : P.funcs[f]? = some fn) (hn : (fn.name == "runtime.NumGoroutine") = false) (hb : fn.body.isNone = false) (ha : args.map (ev σ) = vs) (hws : first ++ vs.toArray ++ cap = ws) :
    (execOp (ev σ) ⟨dst, .call ⟨.value z, args.toArray, tys⟩, ty, pos, af, g⟩).run P w = .ok (.enter f ws) w := by
  subst ha; subst hws; simp [execOp, resolve, hz, Deferred.ofValue, invoke, run_callF hf hn hb]
end
section
variable {P : Program} {N : Nat} {Q : Post} {σ : Env} {w : World} {K : Env → World → Prop} {ops : Array Oper} {rest : List Oper} {d : Nat} {ty : TypeId} {pos : String} {af : Array Edge} {t : TypeId} {x y : Operand}
theorem s_box {v : Value} {c : Array Value} (hN : d < N) (hx : ev σ x = v) (hc : v.cells = c) (k : ∀ b w', New w w' b c t → WpL P N ops K Q rest (upd σ d (.pointer (some ⟨b, 0, none⟩))) w') :
    WpL P N ops K Q (⟨some d, .box t x, ty, pos, af, none⟩ :: rest) σ w := by
  subst hc
  refine WpL_val (v := .pointer (some ⟨w.heap.size, 0, none⟩)) (w' := { w with heap := w.heap.push (.cells v.cells t (0, 0)) }) rfl rfl hN ?_ (k _ _ (New.mk' w v.cells t))
  simp [execOp, hx, Instr.box, newVar, newRow]
theorem s_alloc {z : Value} {c : Array Value} (hN : d < N) (hz : Zer P t z) (hc : z.cells = c) (k : ∀ b w', New w w' b c t → WpL P N ops K Q rest (upd σ d (.pointer (some ⟨b, 0, none⟩))) w') :
    WpL P N ops K Q (⟨some d, .alloc t, ty, pos, af, none⟩ :: rest) σ w := by
  subst hc
  refine WpL_val (v := .pointer (some ⟨w.heap.size, 0, none⟩)) (w' := { w with heap := w.heap.push (.cells z.cells t (0, 0)) }) rfl rfl hN ?_ (k _ _ (New.mk' w z.cells t))
  simp [execOp, Instr.alloc, hz.run, newVar, newRow]
theorem s_store {b o : Nat} {v : Value} {c c' : Array Value} {e : TypeId} (hx : ev σ x = .pointer (some ⟨b, o, none⟩)) (hy : ev σ y = v) (h1 : v.oneCell' = true) (hs : Siz P t 1) (hB : Blk w b c e) (ho : o < c.size) (hc : c.setIfInBounds o v = c')
    (k : ∀ w', Put w w' b c' e → WpL P N ops K Q rest σ w') : WpL P N ops K Q (⟨none, .store t x y, ty, pos, af, none⟩ :: rest) σ w := by
  subst hc
  refine WpL_skip (w' := w.setRow b (c.setIfInBounds o v)) rfl rfl ?_ (k _ (Put.of_setRow hB _))
  have hcs : v.cells = #[v] := by cases v <;> first | rfl | (simp [Value.oneCell'] at h1; done)
  have hst := run_storeCells_at P b o e [v] 0 c w hB (by simp; omega) (by simpa using h1)
  have he : (c.toList.take (o + 0) ++ [v] ++ c.toList.drop (o + 0 + [v].length)).toArray = c.setIfInBounds o v := by
    apply Array.ext'
    simp only [Nat.add_zero, List.length_singleton, Array.toList_setIfInBounds]
    rw [List.set_eq_take_append_cons_drop, if_pos (by simpa using ho)]
    simp
  rw [he] at hst
  simp [execOp, hx, hy, Instr.storeAt, Instr.sureAddr, storeVar, hs.run, hcs, hst]
theorem s_storeAgg {b o n : Nat} {vs c c' : Array Value} {e : TypeId} (hx : ev σ x = .pointer (some ⟨b, o, none⟩)) (hy : ev σ y = .agg vs) (h1 : ∀ v ∈ vs.toList, v.oneCell' = true) (hs : Siz P t n) (hn : vs.size = n) (hB : Blk w b c e) (ho : o + n ≤ c.size) (hc : (c.toList.take o ++ vs.toList ++ c.toList.drop (o + n)).toArray = c')
    (k : ∀ w', Put w w' b c' e → WpL P N ops K Q rest σ w') : WpL P N ops K Q (⟨none, .store t x y, ty, pos, af, none⟩ :: rest) σ w := by
  subst hc; subst hn
  refine WpL_skip (w' := w.setRow b _) rfl rfl ?_ (k _ (Put.of_setRow hB _))
  have hst := run_storeCells_at P b o e vs.toList 0 c w hB (by simpa using ho) h1
  simp only [Nat.add_zero, Array.length_toList] at hst
  simp [execOp, hx, hy, Instr.storeAt, Instr.sureAddr, storeVar, hs.run, Value.cells, hst]
/-- A variable is made and stored into at once. -/
theorem s_allocStore {z v : Value} {n : Nat} {c : Array Value} {ty' : TypeId} {pos' : String} {af' : Array Edge} (hN : d < N) (hz : Zer P t z) (hzs : z.cells.size = n) (hs : Siz P t n) (hy : ev (upd σ d (.pointer (some ⟨w.heap.size, 0, none⟩))) y = v) (hc : v.cells = c) (hn : c.size = n) (h1 : ∀ u ∈ c.toList, u.oneCell' = true)
    (k : ∀ b w', New w w' b c t → WpL P N ops K Q rest (upd σ d (.pointer (some ⟨b, 0, none⟩))) w') :
    WpL P N ops K Q (⟨some d, .alloc t, ty, pos, af, none⟩ :: ⟨none, .store t (.tmp d) y, ty', pos', af', none⟩ :: rest) σ w := by
  subst hc
  refine WpL_val (v := .pointer (some ⟨w.heap.size, 0, none⟩)) (w' := { w with heap := w.heap.push (.cells z.cells t (0, 0)) }) rfl rfl hN ?_ ?_
  · simp [execOp, Instr.alloc, hz.run, newVar, newRow]
  · refine WpL_skip (w' := { w with heap := w.heap.push (.cells v.cells t (0, 0)) }) rfl rfl ?_ (k _ _ (New.mk' w v.cells t))
    have hB : Blk { w with heap := w.heap.push (.cells z.cells t (0, 0)) } w.heap.size z.cells t := (New.mk' w z.cells t).blk
    have hst := run_storeCells_at P w.heap.size 0 t v.cells.toList 0 z.cells _ hB (by simp [hn, hzs]) h1
    have hd : ev (upd σ d (.pointer (some ⟨w.heap.size, 0, none⟩))) (.tmp d) = .pointer (some ⟨w.heap.size, 0, none⟩) := by simp [ev, upd]
    have hw : World.setRow { w with heap := w.heap.push (.cells z.cells t (0, 0)) } w.heap.size (z.cells.toList.take (0 + 0) ++ v.cells.toList ++ z.cells.toList.drop (0 + 0 + v.cells.toList.length)).toArray = { w with heap := w.heap.push (.cells v.cells t (0, 0)) } := by
      have e : (z.cells.toList.take (0 + 0) ++ v.cells.toList ++ z.cells.toList.drop (0 + 0 + v.cells.toList.length)).toArray = v.cells := by
        apply Array.ext'
        simp [hn, ← hzs]
      rw [e]
      simp only [World.setRow]
      congr 1
      apply Array.ext
      · simp
      · intro i h1 h2
        simp only [Array.getElem_modify, Array.getElem_push]
        by_cases hi : i < w.heap.size
        · simp [hi, Nat.ne_of_gt hi]
        · have : i = w.heap.size := by simp at h2; omega
          simp [this]
    rw [hw] at hst
    have hst' : (storeCells ⟨w.heap.size, 0, none⟩ v.cells.toList).run P (w.alloc (.cells z.cells t)) = .ok () (w.alloc (.cells v.cells t)) := hst
    simp [execOp, hd, hy, Instr.storeAt, Instr.sureAddr, storeVar, hs.run, hn, hst']
theorem s_buildSlice {e : TypeId} {len n : Nat} {z : Value} {parts : List (Nat × Operand)} {ps : List (Nat × Value)} {c : Array Value} (hN : d < N) (hp : (parts.map fun (i, x) => (i, ev σ x)) = ps) (hu : P.underlying t = some (.slice e)) (hs : Siz P e n) (hz : Zer P e z) (hl : ¬ (len * n > 2 ^ 24)) (h0 : len * n ≠ 0)
    (hc : Instr.fill (fun i => some (i * n, n)) ((Array.range (len * n)).map (z.cells[· % z.cells.size]!)) ps = some c)
    (k : ∀ b w', New w w' b c e → WpL P N ops K Q rest (upd σ d (.slice (some ⟨b, 0, none⟩) len len)) w') : WpL P N ops K Q (⟨some d, .buildSlice t len parts.toArray, ty, pos, af, none⟩ :: rest) σ w := by
  subst hp
  refine WpL_val (v := .slice (some ⟨w.heap.size, 0, none⟩) len len) (w' := { w with heap := w.heap.push (.cells c e (0, 0)) }) rfl rfl hN ?_ (k _ _ (New.mk' w c e))
  simp only [execOp, Instr.buildSlice, List.map_toArray, Sem.run_bind, run_underlying hu, Result.andThen_ok, hs.run, hl, h0, if_false, Sem.run_pure, hz.run, hc]
  simp [newRow]
end
theorem wpStill_post {P : Program} {ops : Array Oper} {w : World} {R R' : Act → Prop} (h : ∀ a, R a → R' a) : ∀ (l : List Oper) (a : Act), wpStill P ops w R l a → wpStill P ops w R' l a
  | [], a, hr => h a hr
  | o :: rest, a, hr => by
    unfold wpStill at hr ⊢
    split
    · rename_i hw
      rw [if_pos hw] at hr
      exact Oper.still_mono (fun a' => wpStill_post h rest a') hr
    · rename_i hw
      rw [if_neg hw] at hr
      exact wpStill_post h rest _ hr
def WpS (P : Program) (N : Nat) (ops : Array Oper) (w : World) (K : Env → Prop) (l : List Oper) (σ : Env) : Prop :=
  ∀ dz a, Ok dz N a → env a = σ → wpStill P ops w (fun a' => Ok dz N a' ∧ K (env a')) l a
def WpT (P : Program) (N : Nat) (ops : Array Oper) (w : World) (K : Env → World → Prop) (Q : Post) : Nat → List Oper → Env → Prop
  | n, l, σ => WpS P N ops w (fun σ' => WpL P N ops K Q (l.drop n) σ' w) (l.take n) σ
section
variable {P : Program} {N : Nat} {Q : Post} {σ : Env} {w : World} {K : Env → World → Prop} {ops : Array Oper} {rest : List Oper} {n : Nat}
theorem WpT_zero {l : List Oper} (h : WpL P N ops K Q l σ w) : WpT P N ops w K Q 0 l σ := fun dz a ha he => by
  simp only [List.take_zero, List.drop_zero]; exact ⟨ha, he ▸ h⟩
theorem WpT_val {o : Oper} (hg : o.guard = none) {d : Nat} (hd : o.dst = some d) (hN : d < N) {v : Value}
    (hr : (execOp (ev σ) o).run P w = .ok (.value v) w) (k : WpT P N ops w K Q n rest (upd σ d v)) : WpT P N ops w K Q (n + 1) (o :: rest) σ := by
  intro dz a ha he
  simp only [List.take_succ_cons, List.drop_succ_cons]
  unfold wpStill
  rw [if_pos (by simp [Region.wanted, hg])]
  unfold Oper.still
  rw [eval_env, he, hr]
  refine ⟨rfl, ?_⟩
  rw [hd]
  exact k dz _ (ha.put _ _) (by rw [env_put ha hN, he])
theorem WpT_guard_any {d : Nat} {op : Op} {ty : TypeId} {pos : String} {af : Array Edge} {j : Nat} {b : Bool} {oj : Oper} {dj : Nat} {gv u : Value}
    (hj : ops[j]? = some oj) (hdj : oj.dst = some dj) (hN : dj < N) (hd : d < N) (hy : σ dj = gv)
    (h : (gv = .bool b ∧ (execOp (ev σ) ⟨some d, op, ty, pos, af, none⟩).run P w = .ok (.value u) w) ∨ ((gv = .bool (!b) ∨ gv = undef) ∧ u = undef))
    (k : WpT P N ops w K Q n rest (upd σ d u)) : WpT P N ops w K Q (n + 1) (⟨some d, op, ty, pos, af, some (j, b)⟩ :: rest) σ := by
  intro dz a ha he
  simp only [List.take_succ_cons, List.drop_succ_cons]
  have hk := k dz _ (ha.put (some d) u) (by rw [env_put ha hd, he])
  have h2 : a.tmps.getD dj undef = gv := by rw [← hy, ← he]; rfl
  have hlt : dj < a.tmps.size := by rw [ha.size]; exact hN
  have h3 : a.tmps[dj]? = some gv := by rw [Array.getElem?_eq_getElem hlt]; simpa [hlt] using h2
  unfold wpStill
  rcases h with ⟨h1, h4⟩ | ⟨h1, rfl⟩
  · subst h1
    rw [if_pos (by simp [Region.wanted, yielded, hj, hdj, h3])]
    unfold Oper.still
    have h5 : (execOp a.eval ⟨some d, op, ty, pos, af, some (j, b)⟩).run P w = .ok (.value u) w := by rw [eval_env, he]; exact h4
    rw [h5]
    exact ⟨rfl, hk⟩
  · rw [if_neg]
    · exact hk
    · rcases h1 with rfl | rfl
      · cases b <;> simp [Region.wanted, yielded, hj, hdj, h3]
      · simp [Region.wanted, yielded, hj, hdj, h3, undef]
theorem WpT_guard_yes {dst : Option Tmp} {op : Op} {ty : TypeId} {pos : String} {af : Array Edge} {j : Nat} {b : Bool} {oj : Oper} {dj : Nat}
    (hj : ops[j]? = some oj) (hdj : oj.dst = some dj) (hN : dj < N) (hy : σ dj = .bool b)
    (k : WpT P N ops w K Q (n + 1) (⟨dst, op, ty, pos, af, none⟩ :: rest) σ) : WpT P N ops w K Q (n + 1) (⟨dst, op, ty, pos, af, some (j, b)⟩ :: rest) σ := by
  intro dz a ha he
  have h1 := k dz a ha he
  simp only [List.take_succ_cons, List.drop_succ_cons] at h1 ⊢
  have h2 : a.tmps.getD dj undef = .bool b := by rw [← hy, ← he]; rfl
  have hlt : dj < a.tmps.size := by rw [ha.size]; exact hN
  have h3 : a.tmps[dj]? = some (.bool b) := by rw [Array.getElem?_eq_getElem hlt]; simpa [hlt] using h2
  unfold wpStill at h1 ⊢
  rw [if_pos (by simp [Region.wanted, yielded, hj, hdj, h3])]
  rw [if_pos (by rfl)] at h1
  exact h1
theorem WpT_guard_no {d : Nat} {op : Op} {ty : TypeId} {pos : String} {af : Array Edge} {j : Nat} {b : Bool} {oj : Oper} {dj : Nat} {v : Value}
    (hj : ops[j]? = some oj) (hdj : oj.dst = some dj) (hd : d < N ∧ dj < N) (hy : σ dj = v) (hv : v = .bool (!b) ∨ v = undef)
    (k : WpT P N ops w K Q n rest (upd σ d undef)) : WpT P N ops w K Q (n + 1) (⟨some d, op, ty, pos, af, some (j, b)⟩ :: rest) σ :=
  WpT_guard_any hj hdj hd.2 hd.1 hy (.inr ⟨hv, rfl⟩) k
theorem drew_ext (w : World) : Ext w { w with drawn := w.drawn + 1 } := ⟨rfl, rfl, rfl, .of (Nat.le_succ _), Nat.le_refl _, fun _ _ _ => rfl⟩
theorem Wp_draw {id : Nat} {l : List Oper} (n : Nat) (hm : P.follows .mixedOrders = true) (hB : Region.lexTailB .any l.toArray n = true)
    (h : ∀ w', Ext w w' → w'.heap = w.heap → WpT P N l.toArray w' (Q .normal) Q n l σ) : Wp P N (.region id l.toArray true) Q σ w := by
  intro dz a ha he
  have e : lift dz N (thn (Q .normal) Q) = lift dz N Q := by funext e a w; cases e <;> rfl
  refine wp_region_still_tail n hm hB ?_
  have h1 := h _ (drew_ext w) rfl dz a ha he
  have : (fun a' => Ok dz N a' ∧ WpL P N l.toArray (Q .normal) Q (l.drop n) (env a') { w with drawn := w.drawn + 1 }) = (fun a' => Ok dz N a' ∧ WpL P N l.toArray (Q .normal) Q (l.drop n) (env a') { w with drawn := w.drawn + 1 }) := rfl
  refine wpStill_post ?_ _ _ h1
  rintro a' ⟨ha', hk⟩
  have := hk dz a' ha' rfl
  rwa [e] at this
theorem Wp_seq_draw {id : Nat} {l : List Oper} {y : Code} (n : Nat) (hm : P.follows .mixedOrders = true) (hB : Region.lexTailB .any l.toArray n = true)
    (h : ∀ w', Ext w w' → w'.heap = w.heap → WpT P N l.toArray w' (Wp P N y Q) Q n l σ) : Wp P N (.seq (.region id l.toArray true) y) Q σ w := by
  refine Wp_seq ?_
  refine Wp_draw n hm hB fun w' e he => ?_
  have : thn (Wp P N y Q) Q .normal = Wp P N y Q := rfl
  intro dz a ha hae
  have h1 := h w' e he dz a ha hae
  refine wpStill_post ?_ _ _ h1
  rintro a' ⟨ha', hk⟩
  refine ⟨ha', fun dz2 a2 h2 h3 => ?_⟩
  have h4 := hk dz2 a2 h2 h3
  have e2 : lift dz2 N (thn (thn (Wp P N y Q) Q .normal) (thn (Wp P N y Q) Q)) = lift dz2 N (thn (Wp P N y Q) Q) := by funext e a w; cases e <;> rfl
  rw [e2]
  exact h4
end
theorem wI64 {n : Int} (h : -9223372036854775808 ≤ n ∧ n ≤ 9223372036854775807) : IntKind.i64.wrap n = n := by
  simp only [IntKind.wrap, IntKind.bits, IntKind.signed, Bool.true_and, Bool.false_and, decide_eq_true_eq, ge_iff_le, Int.reducePow, Nat.reduceSub, Bool.false_eq_true, if_false]
  split <;> omega
theorem wU64 {n : Int} (h : 0 ≤ n ∧ n ≤ 18446744073709551615) : IntKind.u64.wrap n = n := by
  simp only [IntKind.wrap, IntKind.bits, IntKind.signed, Bool.true_and, Bool.false_and, decide_eq_true_eq, ge_iff_le, Int.reducePow, Nat.reduceSub, Bool.false_eq_true, if_false]
  omega
theorem wU8 {n : Int} (h : 0 ≤ n ∧ n ≤ 255) : IntKind.u8.wrap n = n := by
  simp only [IntKind.wrap, IntKind.bits, IntKind.signed, Bool.true_and, Bool.false_and, decide_eq_true_eq, ge_iff_le, Int.reducePow, Nat.reduceSub, Bool.false_eq_true, if_false]
  omega
theorem wI32 {n : Int} (h : -2147483648 ≤ n ∧ n ≤ 2147483647) : IntKind.i32.wrap n = n := by
  simp only [IntKind.wrap, IntKind.bits, IntKind.signed, Bool.true_and, Bool.false_and, decide_eq_true_eq, ge_iff_le, Int.reducePow, Nat.reduceSub, Bool.false_eq_true, if_false]
  split <;> omega
theorem Wp_cut {P : Program} {N : Nat} {Q : Post} {σ : Env} {w : World} {x y : Code} (J : Env → World → Prop) (h : Wp P N x (thn J Q) σ w) (k : ∀ σ' w', J σ' w' → Wp P N y Q σ' w') : Wp P N (.seq x y) Q σ w :=
  Wp_seq (Wp_mono h fun e σ' w' q => by cases e <;> first | exact k _ _ q | exact q)
theorem run_loadVar {P : Program} {w : World} {b o n : Nat} {t : TypeId} {vs : List Value} (hf : aggB P t = true) (hs : Siz P t n) (hn : vs.length = n) (hc : CellsAt w b o vs) : (loadVar t ⟨b, o, none⟩).run P w = .ok (.agg vs.toArray) w := by
  subst hn
  have h1 := run_loadCells_list (P := P) w ⟨b, o, none⟩ vs (fun j v hj => by rw [Addr.add_lit]; exact hc j v hj)
  simp [loadVar, aggB.run hf, hs.run, h1]
theorem fin_agg {P : Program} {fn : Func} {R : Value → World → Prop} {a0 t b n : Nat} (hr : fn.results = #[.cell a0 t]) {σ : Env} {w : World} {vs : List Value} (hv : σ a0 = .pointer (some ⟨b, 0, none⟩)) (hf : aggB P t = true) (hs : Siz P t n) (hn : vs.length = n) (hc : CellsAt w b 0 vs) (h : R (.agg vs.toArray) w) : fin P fn R .ret σ w :=
  ⟨.agg vs.toArray, fun a ha => by
    subst ha
    have hv' : a.tmps.getD a0 undef = .pointer (some ⟨b, 0, none⟩) := hv
    simp only [Array.getD_eq_getD_getElem?] at hv'
    simp [results, hr, hv', asAddr, run_loadVar hf hs hn hc], h⟩
abbrev I6 (x : Int) : Value := .int .i64 x
abbrev P6 (b o : Nat) : Value := .pointer (some ⟨b, o, none⟩)
abbrev nU (b : Bool) (v : Value) : Value := bif b then undef else v
abbrev yU (b : Bool) (v : Value) : Value := bif b then v else undef
section
variable {P : Program} {N : Nat} {Q : Post} {σ : Env} {w : World} {K : Env → World → Prop} {ops : Array Oper} {rest : List Oper} {n d : Nat} {op : Op} {ty : TypeId} {pos : String} {af : Array Edge} {v : Value} {x : Operand}
theorem qV {w' : World} (hr : (execOp (ev σ) ⟨some d, op, ty, pos, af, none⟩).run P w = .ok (.value v) w') (k : WpL P N ops K Q rest (upd σ d v) w') (hN : d < N := by decide) : WpL P N ops K Q (⟨some d, op, ty, pos, af, none⟩ :: rest) σ w := WpL_val rfl rfl hN hr k
theorem qT (hr : (execOp (ev σ) ⟨some d, op, ty, pos, af, none⟩).run P w = .ok (.value v) w) (k : WpT P N ops w K Q n rest (upd σ d v)) (hN : d < N := by decide) : WpT P N ops w K Q (n + 1) (⟨some d, op, ty, pos, af, none⟩ :: rest) σ := WpT_val rfl rfl hN hr k
theorem qM (v : Value) (hx : ev σ x = v) (k : WpL P N ops K Q rest (upd σ d v) w) (hN : d < N := by decide) : WpL P N ops K Q (⟨some d, .move x, ty, pos, af, none⟩ :: rest) σ w := qV (r_move hx) k hN
theorem qA (v : Value) (hx : ev σ x = v) (k : WpL P N ops K Q rest (upd σ d v) w) (hN : d < N := by decide) : WpL P N ops K Q (⟨some d, .assign x, ty, pos, af, none⟩ :: rest) σ w := qV (r_assign hx) k hN
theorem gA {A : Prop} {v : Value} : A ∨ ((v = v ∨ v = undef) ∧ undef = undef) := .inr ⟨.inl rfl, rfl⟩
theorem gB {A : Prop} {u : Value} : A ∨ ((undef = u ∨ undef = undef) ∧ undef = undef) := .inr ⟨.inr rfl, rfl⟩
theorem qG {j : Nat} {b : Bool} {oj : Oper} {dj : Nat} (gv u : Value)
    (h : (gv = .bool b ∧ (execOp (ev σ) ⟨some d, op, ty, pos, af, none⟩).run P w = .ok (.value u) w) ∨ ((gv = .bool (!b) ∨ gv = undef) ∧ u = undef))
    (k : WpL P N ops K Q rest (upd σ d u) w) (hj : ops[j]? = some oj := by rfl) (hdj : oj.dst = some dj := by rfl) (hN : dj < N := by decide) (hd : d < N := by decide) (hy : σ dj = gv := by rfl) : WpL P N ops K Q (⟨some d, op, ty, pos, af, some (j, b)⟩ :: rest) σ w := WpL_guard_any hj hdj hN hd hy h k
theorem qF {t : TypeId} {fs : Array Field} {f : Field} {i m : Nat} (b o o' : Nat) (hx : ev σ x = .pointer (some ⟨b, o, none⟩)) (hu : P.underlying t = some (.struct fs)) (hf : fs[i]? = some f) (hs : Siz P f.type (m + 1)) (ho : o + f.offset = o')
    (k : WpL P N ops K Q rest (upd σ d (.pointer (some ⟨b, o', none⟩))) w) (hN : d < N := by decide) : WpL P N ops K Q (⟨some d, .fieldAddr t x i, ty, pos, af, none⟩ :: rest) σ w := qV (r_fieldAddr hx hu hf hs ho) k hN
end
end Go.Eng
namespace Go.Eng
open Go
set_option linter.unusedSectionVars false
variable [Drw]
inductive Re where
  | mk (kind : Int) (set : List (Int × Int)) (args : List Re) (mn mx : Int) (neg : Bool)
namespace Re
def kind : Re → Int | .mk k _ _ _ _ _ => k
def set : Re → List (Int × Int) | .mk _ s _ _ _ _ => s
def args : Re → List Re | .mk _ _ a _ _ _ => a
def mn : Re → Int | .mk _ _ _ m _ _ => m
def mx : Re → Int | .mk _ _ _ _ m _ => m
def neg : Re → Bool | .mk _ _ _ _ _ n => n
mutual
def size : Re → Nat
  | .mk _ _ a _ _ _ => sizes a + 1
def sizes : List Re → Nat
  | [] => 0
  | t :: ts => size t + sizes ts
end
theorem size_pos (t : Re) : 0 < t.size := by cases t; simp [size]
theorem size_eq (t : Re) : t.size = sizes t.args + 1 := by cases t; rfl
theorem sizes_get {ts : List Re} {i : Nat} {t : Re} (h : ts[i]? = some t) : t.size ≤ sizes ts := by
  induction ts generalizing i with
  | nil => simp at h
  | cons a r ih =>
    cases i with
    | zero => simp at h; subst h; simp [sizes]
    | succ i => simp at h; have := ih h; simp [sizes]; omega
theorem size_arg {t : Re} {i : Nat} {x : Re} (h : t.args[i]? = some x) : x.size < t.size := by
 have := sizes_get h; rw [size_eq t]; omega
theorem sizes_append (a b : List Re) : sizes (a ++ b) = sizes a + sizes b := by
  induction a with
  | nil => simp [sizes]
  | cons x r ih => simp [sizes, ih]; omega
end Re
abbrev R6 (t : Re) (sa : Option Addr) (sc : Nat) (aa : Option Addr) (ac : Nat) : Array Value := #[.int .i64 t.kind, .slice sa t.set.length sc, .slice aa t.args.length ac, .int .i64 t.mn, .int .i64 t.mx, .bool t.neg]
theorem lt_of_get {α : Type} {l : List α} {i : Nat} {y : α} (h : l[i]? = some y) : i < l.length := by
 rcases Nat.lt_or_ge i l.length with h' | h'
 ·exact h'
 ·simp [List.getElem?_eq_none h'] at h
/-- A slice value that reads as a list of rows of k cells. -/
def SlAt (w : World) (k : Nat) (v : Value) (rows : List (List Value)) : Prop :=
 ∃ a cap, v = .slice a rows.length cap ∧ rows.length ≤ 9223372036854775807 ∧ rows.length ≤ cap ∧ (rows = [] ∨ ∃ b o, a = some ⟨b, o, none⟩ ∧ ∀ i r, rows[i]? = some r → CellsAt w b (o + i * k) r)
theorem SlAt.ext {w w' : World} {k : Nat} {v : Value} {rows : List (List Value)} (h : SlAt w k v rows) (e : Ext w w') : SlAt w' k v rows := by
 obtain ⟨a, cap, hv, hl, hc, h⟩ := h
 refine ⟨a, cap, hv, hl, hc, ?_⟩
 rcases h with h | ⟨b, o, ha, hc⟩
 ·exact .inl h
 ·exact .inr ⟨b, o, ha, fun i r hr => (hc i r hr).ext e⟩
theorem SlAt.nil (w : World) (k : Nat) (a : Option Addr) (cap : Nat) : SlAt w k (.slice a 0 cap) [] := ⟨a, cap, rfl, by simp, by simp, .inl rfl⟩
/-- Where there is an element the slice has an address. -/
theorem SlAt.at {w : World} {k : Nat} {a : Option Addr} {n cap : Nat} {rows : List (List Value)} (h : SlAt w k (.slice a n cap) rows) (hn : 0 < n) :
  ∃ b o, a = some ⟨b, o, none⟩ ∧ ∀ i r, rows[i]? = some r → CellsAt w b (o + i * k) r := by
 obtain ⟨a', cap', hv, _, _, h⟩ := h
 simp only [Value.slice.injEq] at hv
 obtain ⟨rfl, rfl, rfl⟩ := hv
 rcases h with rfl | h
 ·simp at hn
 ·exact h
theorem SlAt.le {w : World} {k : Nat} {v : Value} {rows : List (List Value)} (h : SlAt w k v rows) : rows.length ≤ 9223372036854775807 := let ⟨_, _, _, h, _⟩ := h; h
theorem SlAt.form {w : World} {k : Nat} {v : Value} {rows : List (List Value)} (h : SlAt w k v rows) : ∃ a cap, v = .slice a rows.length cap := let ⟨a, c, h, _⟩ := h; ⟨a, c, h⟩
def intV (x : Int) : List Value := [.int .i64 x]
def spanV (s : Int × Int) : List Value := [.int .i64 s.1, .int .i64 s.2]
def IntsAt (w : World) (v : Value) (l : List Int) : Prop := SlAt w 1 v (l.map intV)
def SpansAt (w : World) (v : Value) (l : List (Int × Int)) : Prop := SlAt w 2 v (l.map spanV)
theorem IntsAt.ext {w w' : World} {v : Value} {l : List Int} (h : IntsAt w v l) (e : Ext w w') : IntsAt w' v l := SlAt.ext h e
theorem SpansAt.ext {w w' : World} {v : Value} {l : List (Int × Int)} (h : SpansAt w v l) (e : Ext w w') : SpansAt w' v l := SlAt.ext h e
theorem CellsAt.at1 {w : World} {b o : Nat} {x y : Value} (h : CellsAt w b o [x, y]) : w.cell? ⟨b, o + 1, none⟩ = some y := h 1 y rfl
theorem CellsAt.at0 {w : World} {b o : Nat} {x : Value} {r : List Value} (h : CellsAt w b o (x :: r)) : w.cell? ⟨b, o, none⟩ = some x := h 0 x rfl
theorem spans_cells {w : World} {a : Option Addr} {n c : Nat} {l : List (Int × Int)} (h : SpansAt w (.slice a n c) l) (hn : 0 < n) :
  ∃ b o, a = some ⟨b, o, none⟩ ∧ ∀ i s, l[i]? = some s → CellsAt w b (o + i * 2) [.int .i64 s.1, .int .i64 s.2] := by
 obtain ⟨b, o, ha, h⟩ := SlAt.at h hn
 exact ⟨b, o, ha, fun i s hs => h i (spanV s) (by simp [hs])⟩
mutual
/-- The cells of an expression. -/
def ReAt (w : World) : Re → List Value → Prop
  | .mk k set args mn mx ng, vs => ∃ sa sc aa ac, vs = [.int .i64 k, .slice sa set.length sc, .slice aa args.length ac, .int .i64 mn, .int .i64 mx, .bool ng] ∧ SpansAt w (.slice sa set.length sc) set ∧ (args.length ≤ ac ∧ ac ≤ 9223372036854775807) ∧
      (args = [] ∨ ∃ b o, aa = some ⟨b, o, none⟩ ∧ ResAt w b o args)
/-- Expressions one behind the other. -/
def ResAt (w : World) (b : Nat) : Nat → List Re → Prop
  | _, [] => True
  | o, t :: ts => (∃ vs, CellsAt w b o vs ∧ ReAt w t vs) ∧ ResAt w b (o + 6) ts
end
mutual
theorem ReAt.ext {w w' : World} (e : Ext w w') : ∀ (t : Re) {vs : List Value}, ReAt w t vs → ReAt w' t vs
  | .mk k set args mn mx ng, vs, h => by
    simp only [ReAt] at h ⊢
    obtain ⟨sa, sc, aa, ac, hv, hs, hl, ha⟩ := h
    refine ⟨sa, sc, aa, ac, hv, hs.ext e, hl, ?_⟩
    rcases ha with h | ⟨b, o, h1, h2⟩
    · exact .inl h
    · exact .inr ⟨b, o, h1, ResAt.ext e args h2⟩
theorem ResAt.ext {w w' : World} (e : Ext w w') {b : Nat} : ∀ (ts : List Re) {o : Nat}, ResAt w b o ts → ResAt w' b o ts
  | [], _, _ => by simp only [ResAt]
  | t :: ts, o, h => by
    simp only [ResAt] at h ⊢
    obtain ⟨⟨vs, h1, h2⟩, h3⟩ := h
    exact ⟨⟨vs, h1.ext e, ReAt.ext e t h2⟩, ResAt.ext e ts h3⟩
end
theorem ResAt.get {w : World} {b : Nat} : ∀ {ts : List Re} {o i : Nat} {t : Re}, ResAt w b o ts → ts[i]? = some t → ∃ vs, CellsAt w b (o + i * 6) vs ∧ ReAt w t vs
  | [], _, _, _, _, h => by simp at h
  | x :: ts, o, 0, t, h, hi => by
    simp only [ResAt] at h
    simp at hi
    subst hi
    simpa using h.1
  | x :: ts, o, i + 1, t, h, hi => by
    simp only [ResAt] at h
    have := ResAt.get h.2 (i := i) (by simpa using hi)
    rwa [show o + (i + 1) * 6 = o + 6 + i * 6 from by omega]
theorem ResAt.mk {w : World} {b : Nat} : ∀ {ts : List Re} {o : Nat}, (∀ i t, ts[i]? = some t → ∃ vs, CellsAt w b (o + i * 6) vs ∧ ReAt w t vs) → ResAt w b o ts
  | [], _, _ => by simp only [ResAt]
  | x :: ts, o, h => by
    simp only [ResAt]
    refine ⟨by simpa using h 0 x rfl, ResAt.mk fun i t hi => ?_⟩
    have := h (i + 1) t (by simpa using hi)
    rwa [show o + (i + 1) * 6 = o + 6 + i * 6 from by omega] at this
/-- The form of an expression's value. -/
theorem ReAt.form {w : World} {t : Re} {vs : List Value} (h : ReAt w t vs) : ∃ sa sc aa ac, vs = [.int .i64 t.kind, .slice sa t.set.length sc, .slice aa t.args.length ac, .int .i64 t.mn, .int .i64 t.mx, .bool t.neg] ∧ SpansAt w (.slice sa t.set.length sc) t.set ∧ (t.args.length ≤ ac ∧ ac ≤ 9223372036854775807) ∧
  (t.args = [] ∨ ∃ b o, aa = some ⟨b, o, none⟩ ∧ ResAt w b o t.args) := by
 cases t; simp only [ReAt] at h; exact h
theorem ReAt.of {w : World} {k : Int} {set : List (Int × Int)} {args : List Re} {mn mx : Int} {ng : Bool} {sa aa : Option Addr} {sc ac : Nat} (hs : SpansAt w (.slice sa set.length sc) set) (hl : (args.length ≤ ac ∧ ac ≤ 9223372036854775807)) (ha : args = [] ∨ ∃ b o, aa = some ⟨b, o, none⟩ ∧ ResAt w b o args) :
  ReAt w (.mk k set args mn mx ng) [.int .i64 k, .slice sa set.length sc, .slice aa args.length ac, .int .i64 mn, .int .i64 mx, .bool ng] := by
 simp only [ReAt]; exact ⟨sa, sc, aa, ac, rfl, hs, hl, ha⟩
theorem ReAt.len {w : World} {t : Re} {vs : List Value} (h : ReAt w t vs) : vs.length = 6 := by
 obtain ⟨_, _, _, _, rfl, _⟩ := h.form; rfl
/-- A call of a function value. -/
def CallV (P : Program) (fv : Value) (args : Array Value) (w : World) (R : Value → World → Prop) : Prop :=
 ∃ f fn first cap, fv = .func (.func f) first cap ∧ P.funcs[f]? = some fn ∧ (fn.name == "runtime.NumGoroutine") = false ∧ fn.body.isNone = false ∧ Ret P f (first ++ args ++ cap) w R
theorem CallV.mk {P : Program} {f : FuncId} {fn : Func} {first cap args ws : Array Value} {w : World} {R : Value → World → Prop} (hf : P.funcs[f]? = some fn) (hn : (fn.name == "runtime.NumGoroutine") = false) (hb : fn.body.isNone = false) (hw : first ++ args ++ cap = ws) (h : Ret P f ws w R) :
  CallV P (.func (.func f) first cap) args w R := ⟨f, fn, first, cap, rfl, hf, hn, hb, hw ▸ h⟩
theorem WpL_callV {P : Program} {N : Nat} {Q : Post} {σ : Env} {w : World} {K : Env → World → Prop} {ops : Array Oper} {rest : List Oper} {d : Nat} {z : Operand} {args : List Operand} {tys : Array TypeId} {ty : TypeId} {pos : String} {af : Array Edge} {fv : Value} {vs : List Value} {R : Value → World → Prop}
  (hN : d < N) (hz : ev σ z = fv) (ha : args.map (ev σ) = vs) (hc : CallV P fv vs.toArray w R) (k : ∀ v w', R v w' → WpL P N ops K Q rest (upd σ d v) w') :
  WpL P N ops K Q (⟨some d, .call ⟨.value z, args.toArray, tys⟩, ty, pos, af, none⟩ :: rest) σ w := by
 obtain ⟨f, fn, first, cap, rfl, hf, hn, hb, hr⟩ := hc
 exact WpL_enter rfl rfl hN (r_callV hz hf hn hb ha rfl) hr k
section
variable {S : Type} (F : S → Re → Bool × S)
mutual
def walkF : Re → S → Bool × S
  | .mk k set args mn mx ng, s => match F s (.mk k set args mn mx ng) with
    | (false, s') => (false, s')
    | (true, s') => walkFs args s'
def walkFs : List Re → S → Bool × S
  | [], s => (true, s)
  | t :: ts, s => match walkF t s with
    | (false, s') => (false, s')
    | (true, s') => walkFs ts s'
end
theorem walkF_eq (t : Re) (s : S) : walkF F t s = if (F s t).1 then walkFs F t.args (F s t).2 else (false, (F s t).2) := by
 cases t
 simp only [walkF, Re.args]
 split <;> rename_i h <;> simp [h]
theorem walkFs_cons (t : Re) (ts : List Re) (s : S) : walkFs F (t :: ts) s = if (walkF F t s).1 then walkFs F ts (walkF F t s).2 else (false, (walkF F t s).2) := by
 simp only [walkFs]
 split <;> rename_i h <;> simp [h]
end
theorem int_eq {a b : Int} (h : a = b) : Value.int .i64 a = .int .i64 b := by rw [h]
theorem bool_eq {a b : Bool} (h : a = b) : Value.bool a = .bool b := by rw [h]
theorem ints_cells {w : World} {a : Option Addr} {n c : Nat} {l : List Int} (h : IntsAt w (.slice a n c) l) (hn : 0 < n) :
  ∃ b o, a = some ⟨b, o, none⟩ ∧ ∀ i x, l[i]? = some x → w.cell? ⟨b, o + i, none⟩ = some (.int .i64 x) := by
 obtain ⟨b, o, ha, h⟩ := SlAt.at h hn
 refine ⟨b, o, ha, fun i x hx => ?_⟩
 have := h i (intV x) (by simp [hx]) 0 _ rfl
 simpa using this
theorem get_of_lt {α : Type} {l : List α} {i : Nat} (h : i < l.length) : ∃ x, l[i]? = some x := ⟨_, List.getElem?_eq_getElem h⟩
theorem drop_cons {α : Type} {l : List α} {k : Nat} {x : α} (h : l[k]? = some x) : l.drop k = x :: l.drop (k + 1) := by
 have hlt := lt_of_get h
 rw [List.drop_eq_getElem_cons hlt]; rw [List.getElem?_eq_getElem hlt] at h; cases h; rfl
theorem slat_of_blk {w : World} {b t k cap : Nat} {rows : List (List Value)} (h : Blk w b rows.flatten.toArray t) (hk : ∀ r ∈ rows, r.length = k) (hl : rows.length ≤ 9223372036854775807) (hcap : rows.length ≤ cap) : SlAt w k (.slice (some ⟨b, 0, none⟩) rows.length cap) rows := by
  refine ⟨_, cap, rfl, hl, hcap, .inr ⟨b, 0, rfl, fun i r hr j u hu => ?_⟩⟩
  have hc : (rows.flatten)[i * k + j]? = some u := by
    clear h hl hcap
    induction rows generalizing i with
    | nil => simp at hr
    | cons x rs ih =>
      have hx : x.length = k := hk x (by simp)
      cases i with
      | zero =>
        simp at hr; subst hr
        have hj := lt_of_get hu
        simp only [List.flatten_cons, Nat.zero_mul, Nat.zero_add]
        rw [List.getElem?_append_left hj]; exact hu
      | succ i =>
        simp at hr
        simp only [List.flatten_cons]
        rw [List.getElem?_append_right (by rw [hx, Nat.succ_mul]; omega)]
        rw [show (i + 1) * k + j - x.length = i * k + j from by rw [hx, Nat.succ_mul]; omega]
        exact ih (fun r hr => hk r (by simp [hr])) _ hr
  rw [Nat.zero_add]
  exact h.cell (by simpa using hc)
theorem ints_of_blk {w : World} {b t cap : Nat} (l : List Int) (h : Blk w b (l.map intV).flatten.toArray t) (hl : l.length ≤ 9223372036854775807) (hcap : l.length ≤ cap) : IntsAt w (.slice (some ⟨b, 0, none⟩) l.length cap) l := by
 have := slat_of_blk (k := 1) (cap := cap) h (by intro r hr; simp only [List.mem_map] at hr; obtain ⟨x, _, rfl⟩ := hr; rfl) (by simpa using hl) (by simpa using hcap)
 simpa [IntsAt] using this
theorem spans_of_blk {w : World} {b t cap : Nat} (l : List (Int × Int)) (h : Blk w b (l.map spanV).flatten.toArray t) (hl : l.length ≤ 9223372036854775807) (hcap : l.length ≤ cap) : SpansAt w (.slice (some ⟨b, 0, none⟩) l.length cap) l := by
 have := slat_of_blk (k := 2) (cap := cap) h (by intro r hr; simp only [List.mem_map] at hr; obtain ⟨x, _, rfl⟩ := hr; rfl) (by simpa using hl) (by simpa using hcap)
 simpa [SpansAt] using this
theorem ReAt.one {w : World} {t : Re} {vs : List Value} (h : ReAt w t vs) : ∀ u ∈ vs, u.oneCell' = true := by
 obtain ⟨_, _, _, _, rfl, _⟩ := h.form
 simp [Value.oneCell']
end Go.Eng
namespace Go.Eng
open Go
set_option linter.unusedSectionVars false
variable [Drw]
/-- The word whose bits below n are f's. -/
def maskN : Nat → (Nat → Bool) → Nat
  | 0, _ => 0
  | n + 1, f => maskN n f + (if f n then 2 ^ n else 0)
end Go.Eng
namespace Go.Eng
open Go
set_option linter.unusedSectionVars false
variable [Drw]
abbrev Rl := Nat → Nat → Bool
def thenR (A B : Rl) (n : Nat) : Rl := fun i k => decide (i ≤ n) && (List.range 25).any fun j => A i j && B j k
def orR (A B : Rl) : Rl := fun i j => A i j || B i j
def andR (A B : Rl) : Rl := fun i j => A i j && B i j
def idR (n : Nat) : Rl := fun i j => decide (i ≤ n) && decide (j = i)
def noR : Rl := fun _ _ => false
def inS (l : List (Int × Int)) (r : Int) : Bool := l.any fun s => decide (s.1 ≤ r) && decide (r ≤ s.2)
def setR (text : List Int) (set : List (Int × Int)) : Rl := fun i j => (match text[i]? with | some c => inS set c | none => false) && decide (j = i + 1)
def notR (n : Nat) (A : Rl) : Rl := fun i j => (decide (i ≤ n) && (decide (i ≤ j) && decide (j ≤ n))) && !A i j
def starN (n : Nat) (A : Rl) : Nat → Rl
  | 0 => idR n
  | m + 1 => orR (starN n A m) (thenR (starN n A m) A n)
def powR (n : Nat) (A : Rl) : Nat → Rl
  | 0 => idR n
  | m + 1 => thenR (powR n A m) A n
def repR (n : Nat) (A : Rl) (mn : Int) : Nat → Rl
  | 0 => noR
  | m + 1 => if mn ≤ (m : Int) then orR (repR n A mn m) (powR n A m) else repR n A mn m
def lookR (n : Nat) (A : Rl) (neg : Bool) : Rl := fun i j => (decide (i ≤ n) && decide (j = i)) && (decide (maskN 25 (A i) ≠ 0) != neg)
def relK (text : List Int) (k : Int) (set : List (Int × Int)) (L : List Rl) (mn mx : Int) (ng : Bool) : Rl :=
 if k = 1 then idR text.length else if k = 2 then setR text set
 else if k = 3 then L.foldl (fun a x => thenR a x text.length) (idR text.length)
 else if k = 4 then L.foldl orR noR
 else if k = 7 then L.foldl andR (L.headD noR)
 else if k = 8 then notR text.length (L.headD noR)
 else if k = 5 then starN text.length (L.headD noR) (text.length + 1)
 else if k = 6 then repR text.length (L.headD noR) mn (mx + 1).toNat
 else if k = 9 then L.headD noR
 else if k = 10 then lookR text.length (L.headD noR) ng
 else noR
mutual
def relOf (text : List Int) : Re → Rl
  | .mk k set args mn mx ng => relK text k set (relsOf text args) mn mx ng
def relsOf (text : List Int) : List Re → List Rl
  | [] => []
  | t :: ts => relOf text t :: relsOf text ts
end
theorem own_form {w : World} {base e size n : Nat} {v : Value} {xs : List Value} (h : w.ownsRow base e size v n xs) : ∃ a c, v = .slice a n c := by
 rcases h.2 with ⟨rfl, rfl⟩ | ⟨g, cap, cur, rfl, _⟩
 ·exact ⟨_, _, rfl⟩
 ·exact ⟨_, _, rfl⟩
theorem own_chg {M : Nat → Prop} {w w' : World} {base e size n : Nat} {v : Value} {xs : List Value} (h : w.ownsRow base e size v n xs) (c : Chg M w w') (hm : ∀ k, v.ownBlock = some k → ¬ M k) : w'.ownsRow base e size v n xs := by
 refine ⟨h.1, ?_⟩
 rcases h.2 with hn | ⟨g, cap, cur, rfl, hb, hgg, rest⟩
 ·exact .inl hn
 ·refine .inr ⟨g, cap, cur, rfl, hb, ?_, rest⟩
  rw [c.blk g (Array.getElem?_eq_some_iff.1 hgg).1 (hm g rfl)]
  exact hgg
theorem own_ext {w w' : World} {base e size n : Nat} {v : Value} {xs : List Value} (h : w.ownsRow base e size v n xs) (c : Ext w w') : w'.ownsRow base e size v n xs := own_chg h c fun _ _ f => f
theorem own_cells {w : World} {base e size n : Nat} {a : Option Addr} {c : Nat} {xs : List Value} (h : w.ownsRow base e size (.slice a n c) n xs) (hn : 0 < n) :
  ∃ g, a = some ⟨g, 0, none⟩ ∧ base ≤ g ∧ CellsAt w g 0 xs := by
 rcases h.2 with ⟨h1, rfl⟩ | ⟨g, cap, cur, hv, hb, hgg, _, _, _, htake⟩
 ·omega
 ·simp only [Value.slice.injEq] at hv
  obtain ⟨rfl, _, rfl⟩ := hv
  refine ⟨g, rfl, hb, fun i v hv => ?_⟩
  have := h.cells (g := g) rfl i v hv
  rwa [Addr.add_lit] at this
theorem own_slat {w : World} {base e k n : Nat} {v : Value} {rows : List (List Value)} (h : w.ownsRow base e k v n rows.flatten) (hk : ∀ r ∈ rows, r.length = k) (hn : rows.length = n) (hpos : 0 < k) : SlAt w k v rows := by
  obtain ⟨h1, h2⟩ := h
  rcases h2 with ⟨rfl, rfl⟩ | ⟨g, cap, cur, rfl, hb, hgg, hnc, hcm, hcs, htake⟩
  · have : rows = [] := List.eq_nil_of_length_eq_zero hn
    subst this
    exact SlAt.nil w k _ _
  · refine ⟨_, cap, by rw [hn], by simp only [maxLen] at hcm; omega, by omega, .inr ⟨g, 0, rfl, fun i r hr j u hu => ?_⟩⟩
    have hc : (rows.flatten)[i * k + j]? = some u := by
      clear htake hgg h1 hn
      induction rows generalizing i with
      | nil => simp at hr
      | cons x rs ih =>
        have hx : x.length = k := hk x (by simp)
        cases i with
        | zero =>
          simp at hr; subst hr
          have hj := lt_of_get hu
          simp only [List.flatten_cons, Nat.zero_mul, Nat.zero_add]
          rw [List.getElem?_append_left hj]; exact hu
        | succ i =>
          simp at hr
          simp only [List.flatten_cons]
          rw [List.getElem?_append_right (by rw [hx, Nat.succ_mul]; omega)]
          rw [show (i + 1) * k + j - x.length = i * k + j from by rw [hx, Nat.succ_mul]; omega]
          exact ih (fun r hr => hk r (by simp [hr])) _ hr
    rw [← htake] at hc
    have hlt : i * k + j < n * k := by
      have := lt_of_get hc
      simp at this; omega
    rw [List.getElem?_take_of_lt hlt] at hc
    show w.cell? ⟨g, 0 + i * k + j, none⟩ = some u
    rw [Nat.zero_add]
    simp only [World.cell?, hgg]
    simpa using hc
/-- Where the slice lies behind an append. -/
theorem append_where {P : Program} {w w' : World} {base t ty e size bytes n m c : Nat} {i : TypeInfo} {z v v' : Value} {xs news : List Value} {a : Addr} (ht : P.underlying t = some (.slice e)) (hi : P.info? e = some i) (hz : i.zero = some z) (hsize : i.size = size) (hby : i.bytes = bytes) (hzs : z.cells.size = size) (hsz : 0 < size)
  (hown : w.ownsRow base e size v n xs) (hl : news.length = m * size) (hnews : ∀ j u, news[j]? = some u → w.cell? (a.add j) = some u) (h1 : ∀ u ∈ news, u.oneCell' = true) (h63 : n + m ≤ maxLen) (hbytes : (n + m) * bytes ≤ 140737488355328)
  (hr : (Builtin.append_ #[t, t] ty #[v, .slice (some a) m c]).run P w = .ok v' w') : ∀ k, v'.ownBlock = some k → v.ownBlock = some k ∨ w.heap.size ≤ k := by
 rcases hown.2 with ⟨rfl, rfl⟩ | ⟨g, cap, cur, rfl, hbg, hg, hnc, hcm, hcs, htake⟩
 ·have hx : xs = [] := List.eq_nil_of_length_eq_zero (by simpa using hown.1)
  subst hx
  obtain ⟨v2, w2, hr2, ho2, _⟩ := run_append_own (P := P) w w.heap.size t ty e i z size bytes ht hi hz hsize hby hzs hsz (.slice none 0 0) 0 [] (World.ownsRow_nil w w.heap.size e size) a m c news hl hnews h1 h63 hbytes (Nat.le_refl _)
  rw [hr2] at hr
  cases hr
  intro k hk
  exact .inr (ho2.lt k hk).1
 ·have hsmall : n + m ≤ 9223372036854775807 := by simp only [maxLen] at h63; omega
  subst hsize; subst hby
  by_cases hroom : n + m ≤ cap
  ·have hfit : n * i.size + news.length ≤ cur.size := by rw [hl, hcs, ← Nat.add_mul]; exact Nat.mul_le_mul_right _ hroom
   have hr2 := run_append_room (P := P) w t ty e i ht hi g n cap cur hg a m c news hl hnews h1 hroom hfit
   rw [hr2] at hr
   cases hr
   intro k hk
   exact .inl hk
  ·have holds : ∀ j u, xs[j]? = some u → w.cell? ((⟨g, 0, none⟩ : Addr).add j) = some u := hown.cells (g := g) rfl
   have hr2 := run_append_grow (P := P) w t ty e i z ht hi hz ⟨g, 0, none⟩ n cap xs hown.1 holds a m c news hl hnews (by omega) (by omega) (growslice_fits (by omega) hbytes)
   rw [hr2] at hr
   cases hr
   intro k hk
   simp only [Value.ownBlock, Option.some.injEq] at hk
   exact .inr (by omega)
/-- An append never draws less than nothing. -/
theorem append_drawn {P : Program} {w w' : World} {base t ty e size bytes n m c : Nat} {i : TypeInfo} {z v v' : Value} {xs news : List Value} {a : Addr} (ht : P.underlying t = some (.slice e)) (hi : P.info? e = some i) (hz : i.zero = some z) (hsize : i.size = size) (hby : i.bytes = bytes)
  (hown : w.ownsRow base e size v n xs) (hl : news.length = m * size) (hnews : ∀ j u, news[j]? = some u → w.cell? (a.add j) = some u) (h1 : ∀ u ∈ news, u.oneCell' = true) (h63 : n + m ≤ maxLen) (hbytes : (n + m) * bytes ≤ 140737488355328)
  (hr : (Builtin.append_ #[t, t] ty #[v, .slice (some a) m c]).run P w = .ok v' w') : Dr w w' := by
 refine .of ?_
 have hsmall : n + m ≤ 9223372036854775807 := by simp only [maxLen] at h63; omega
 subst hsize; subst hby
 rcases hown.2 with ⟨rfl, rfl⟩ | ⟨g, cap, cur, rfl, hbg, hg, hnc, hcm, hcs, htake⟩
 ·by_cases hm : m = 0
  ·subst hm
   have h2 : (Builtin.append_ #[t, t] ty #[.slice none 0 0, .slice (some a) 0 c]).run P w = .ok (.slice none 0 0) w := by
    simp [Builtin.append_, run_underlying ht, sizeOf, typeInfo, hi, Builtin.lenOf, Builtin.firstCells, loadCells, loadCellsFrom]
   rw [h2] at hr; cases hr; exact Nat.le_refl _
  ·have hr2 := run_append_nil (P := P) w t ty e i z ht hi hz a m c news hl hnews (by omega) (by omega) (by have hb := hbytes; simp only [Nat.zero_add] at hb; omega)
   rw [hr2] at hr; cases hr; exact Nat.le_succ _
 ·by_cases hroom : n + m ≤ cap
  ·have hfit : n * i.size + news.length ≤ cur.size := by rw [hl, hcs, ← Nat.add_mul]; exact Nat.mul_le_mul_right _ hroom
   have hr2 := run_append_room (P := P) w t ty e i ht hi g n cap cur hg a m c news hl hnews h1 hroom hfit
   rw [hr2] at hr; cases hr; exact Nat.le_refl _
  ·have holds : ∀ j u, xs[j]? = some u → w.cell? ((⟨g, 0, none⟩ : Addr).add j) = some u := hown.cells (g := g) rfl
   have hr2 := run_append_grow (P := P) w t ty e i z ht hi hz ⟨g, 0, none⟩ n cap xs hown.1 holds a m c news hl hnews (by omega) (by omega) (growslice_fits (by omega) hbytes)
   rw [hr2] at hr; cases hr; exact Nat.le_succ _
/-- One append to a slice of the call's own. -/
theorem s_append {P : Program} {N : Nat} {Q : Post} {σ : Env} {w : World} {K : Env → World → Prop} {ops : Array Oper} {rest : List Oper} {d : Nat} {ty : TypeId} {pos : String} {af : Array Edge} {t : TypeId} {s x : Operand}
    {base e size bytes n m c bx ox : Nat} {z v : Value} {xs news : List Value} (hN : d < N) (hu : P.underlying t = some (.slice e)) (hsz : Siz P e size) (hby : Byt P e bytes) (hz : Zer P e z) (hzs : z.cells.size = size) (h0 : 0 < size)
    (hs : ev σ s = v) (hown : w.ownsRow base e size v n xs) (hx : ev σ x = .slice (some ⟨bx, ox, none⟩) m c) (hl : news.length = m * size) (hnews : CellsAt w bx ox news) (h1 : ∀ u ∈ news, u.oneCell' = true)
    (h63 : n + m ≤ maxLen) (hbytes : (n + m) * bytes ≤ 140737488355328) (hbase : base ≤ w.heap.size)
    (k : ∀ v' w', w'.ownsRow base e size v' (n + m) (xs ++ news) → Chg (fun x => v.ownBlock = some x) w w' → (∀ k, v'.ownBlock = some k → v.ownBlock = some k ∨ w.heap.size ≤ k) → WpL P N ops K Q rest (upd σ d v') w') :
    WpL P N ops K Q (⟨some d, .call ⟨.builtin .append, #[s, x], #[t, t]⟩, ty, pos, af, none⟩ :: rest) σ w := by
  unfold Siz at hsz; unfold Byt at hby; unfold Zer at hz
  cases hi : P.info? e with
  | none => rw [hi] at hsz; simp at hsz
  | some i =>
  rw [hi] at hsz hby hz
  simp at hsz hby hz
  obtain ⟨v', w', hr, h2, h3, _⟩ := run_append_own (P := P) w base t ty e i z size bytes hu hi hz hsz hby hzs h0 v n xs hown ⟨bx, ox, none⟩ m c news hl (fun j u hj => by rw [Addr.add_lit]; exact hnews j u hj) h1 h63 hbytes hbase
  refine WpL_val (v := v') (w' := w') rfl rfl hN ?_ (k v' w' h2 ⟨h3.os, h3.tape, h3.output, append_drawn (P := P) hu hi hz hsz hby hown hl (fun j u hj => by rw [Addr.add_lit]; exact hnews j u hj) h1 h63 hbytes hr, h3.size, fun b hb hn => h3.block b hb (fun h => hn h.symm)⟩ (append_where (P := P) hu hi hz hsz hby hzs h0 hown hl (fun j u hj => by rw [Addr.add_lit]; exact hnews j u hj) h1 h63 hbytes hr))
  simp [execOp, resolve, invoke, builtin, hs, hx, hr]
end Go.Eng
namespace Go.Eng
open Go
set_option linter.unusedSectionVars false
variable [Drw]
def bS (l : List UInt8) : ByteArray := ⟨l.toArray⟩
theorem bS_add (l m : List UInt8) : bS l ++ bS m = bS (l ++ m) := by
 unfold bS
 apply ByteArray.ext
 simp
theorem bS_size (l : List UInt8) : (bS l).size = l.length := by simp [bS, ByteArray.size]
theorem r_bSAdd {P : Program} {σ : Env} {w : World} {dst : Option Tmp} {ty t t' : TypeId} {pos : String} {af : Array Edge} {g : Option (Nat × Bool)} {x y : Operand} {l m n : List UInt8} (hx : ev σ x = .string (bS l)) (hy : ev σ y = .string (bS m)) (hc : l ++ m = n) (hn : n.length ≤ 1000000000) : (execOp (ev σ) ⟨dst, .binOp .add t x y t', ty, pos, af, g⟩).run P w = .ok (.value (.string (bS n))) w := by
 subst hc
 have hz : ((bS l).size : Int) + ((bS m).size : Int) ≤ 9223372036854775807 := by rw [bS_size, bS_size]; rw [List.length_append] at hn; omega
 simp only [execOp, hx, hy, eqGuard, binOp]; simp [Op.stringOp, bS_add, hz]
theorem bS_beq (l m : List UInt8) : ((bS l).toList == (bS m).toList) = decide (l = m) := by
 rw [Lib.toList_data, Lib.toList_data]
 show (l == m) = _
 rw [Bool.eq_iff_iff, beq_iff_eq, decide_eq_true_eq]
theorem r_eqlS {P : Program} {σ : Env} {w : World} {dst : Option Tmp} {ty t t' : TypeId} {pos : String} {af : Array Edge} {g : Option (Nat × Bool)} {x y : Operand} {l m : List UInt8} (hx : ev σ x = .string (bS l)) (hy : ev σ y = .string (bS m)) : (execOp (ev σ) ⟨dst, .binOp .eql t x y t', ty, pos, af, g⟩).run P w = .ok (.value (.bool (decide (l = m)))) w := by
 rw [← bS_beq]
 simp only [execOp, hx, hy, eqGuard, binOp]; simp [Op.stringOp]
theorem r_neqS {P : Program} {σ : Env} {w : World} {dst : Option Tmp} {ty t t' : TypeId} {pos : String} {af : Array Edge} {g : Option (Nat × Bool)} {x y : Operand} {l m : List UInt8} (hx : ev σ x = .string (bS l)) (hy : ev σ y = .string (bS m)) : (execOp (ev σ) ⟨dst, .binOp .neq t x y t', ty, pos, af, g⟩).run P w = .ok (.value (.bool (decide (l ≠ m)))) w := by
 have h : decide (l ≠ m) = !((bS l).toList == (bS m).toList) := by rw [bS_beq]; simp
 rw [h]
 simp only [execOp, hx, hy, eqGuard, binOp]; simp [Op.stringOp]
theorem bS_extract (l : List UInt8) (i j : Nat) : (bS l).extract i j = bS ((l.take j).drop i) := by
 apply ByteArray.ext
 simp [bS, ByteArray.data_extract, List.drop_take]
theorem r_sliceSLo {P : Program} {σ : Env} {w : World} {dst : Option Tmp} {ty t : TypeId} {pos : String} {af : Array Edge} {g : Option (Nat × Bool)} {x y : Operand} {l m : List UInt8} {lo : Nat} {k : IntKind} {a : Int} (hu : P.underlying t = some .string) (hx : ev σ x = .string (bS l)) (hy : ev σ y = .int k a) (hl : a = (lo : Int)) (h1 : lo ≤ l.length) (hm : l.drop lo = m) :
  (execOp (ev σ) ⟨dst, .slice t x (some y) none none, ty, pos, af, g⟩).run P w = .ok (.value (.string (bS m))) w := by
 subst hl; subst hm
 have h2 : (0 : Int) ≤ (lo : Int) ∧ (lo : Int) ≤ (l.length : Int) := by omega
 simp [execOp, hx, hy, Instr.sliceAt, Instr.slice, run_underlying hu, Instr.sliceBounds, Instr.sliceBound, asIntOf, h1, bS_size, bS_extract]
theorem r_sliceSHi {P : Program} {σ : Env} {w : World} {dst : Option Tmp} {ty t : TypeId} {pos : String} {af : Array Edge} {g : Option (Nat × Bool)} {x y : Operand} {l m : List UInt8} {hi : Nat} {k : IntKind} {a : Int} (hu : P.underlying t = some .string) (hx : ev σ x = .string (bS l)) (hy : ev σ y = .int k a) (hl : a = (hi : Int)) (h1 : hi ≤ l.length) (hm : l.take hi = m) :
  (execOp (ev σ) ⟨dst, .slice t x none (some y) none, ty, pos, af, g⟩).run P w = .ok (.value (.string (bS m))) w := by
 subst hl; subst hm
 simp [execOp, hx, hy, Instr.sliceAt, Instr.slice, run_underlying hu, Instr.sliceBounds, Instr.sliceBound, asIntOf, h1, bS_size, bS_extract]
end Go.Eng
namespace Go.Proofs
open Go Go.Eng Go.Sort Go.Lib
set_option linter.unusedSectionVars false
variable [Drw]
set_option maxRecDepth 100000
abbrev Bys := List UInt8
/-- The table of the powers of ten is as the program's text lays it. -/
def PowOk (w : World) : Prop := ∃ t fr, w.heap[3]? = some (.cells (pow10Tab.map fun z => Value.int .u64 z).toArray t fr)
theorem powName : Tryz.prog.globalNamed "internal/strconv.uint64pow10" = some 3 := by kernel_rfl
theorem PowOk.of {w : World} (h : TabIs Tryz.prog w "internal/strconv.uint64pow10" .u64 pow10Tab) : PowOk w := by
 unfold TabIs World.var? at h
 rw [powName, Option.bind_some] at h
 split at h
 ·rename_i cs t fr hh
  cases h
  exact ⟨t, fr, hh⟩
 ·cases h
theorem PowOk.tab {w : World} (h : PowOk w) : TabIs Tryz.prog w "internal/strconv.uint64pow10" .u64 pow10Tab := by
 obtain ⟨t, fr, hh⟩ := h
 unfold TabIs World.var?
 rw [powName, Option.bind_some, hh]
theorem PowOk.lt {w : World} (h : PowOk w) : 3 < w.heap.size := by
 obtain ⟨t, fr, hh⟩ := h
 exact (Array.getElem?_eq_some_iff.1 hh).1
theorem PowOk.chg {M : Nat → Prop} {w w' : World} (h : PowOk w) (c : Chg M w w') (hm : ¬ M 3) : PowOk w' := by
 have hl := h.lt
 obtain ⟨t, fr, hh⟩ := h
 exact ⟨t, fr, (c.blk _ hl hm).trans hh⟩
theorem PowOk.ext {w w' : World} (h : PowOk w) (c : Ext w w') : PowOk w' := h.chg c fun f => f
theorem itoa_c (w0 : World) (n : Int) (h0 : 0 ≤ n) (h1 : n ≤ 2000000) (hP : PowOk w0) : Ret Tryz.prog 24 #[.int .i64 n] w0 fun v w => v = .string (bS (itoa n)) ∧ Ext w0 w := by
 refine (Any.strconv_Itoa Tryz.itoaS n (by omega) (by omega) w0 hP.tab).mono ?_
 rintro e w' ⟨rfl, k, os, rfl⟩
 refine ⟨_, rfl, rfl, Ext.of_below ?_ (by show w0.drawn ≤ w0.drawn + k; omega)⟩
 exact below_grow _ _ (Nat.le_refl _) k os
theorem dec_len : ∀ (k u : Nat), u < 10 ^ (k + 1) → (decDigits u).length ≤ k + 1
  | 0, u, h => by
    rw [decDigits, dif_pos (by simpa using h)]; exact Nat.le_refl 1
  | k + 1, u, h => by
    rw [decDigits]
    split
    · simp
    · have h1 : u / 10 < 10 ^ (k + 1) := by rw [Nat.pow_succ] at h; omega
      have h2 := dec_len k _ h1
      simp only [List.length_append, List.length_singleton]; omega
theorem itoa_len {n : Int} (h0 : 0 ≤ n) (h : n ≤ 2000000) : (itoa n).length ≤ 7 := by
 unfold itoa
 rw [if_neg (by omega)]
 exact dec_len 6 _ (by omega)
end Go.Proofs
namespace Go.Proofs
open Go Go.Eng
set_option maxRecDepth 100000
theorem siz3 : Siz Tryz.prog 3 1 := by unfold Siz; kernel_rfl
theorem zer3 : Zer Tryz.prog 3 (.int .i64 0) := by unfold Zer; kernel_rfl
theorem flat3 : flatB Tryz.prog 3 = true := by kernel_rfl
theorem siz4 : Siz Tryz.prog 4 1 := by unfold Siz; kernel_rfl
theorem flat4 : flatB Tryz.prog 4 = true := by kernel_rfl
theorem siz5 : Siz Tryz.prog 5 1 := by unfold Siz; kernel_rfl
theorem zer5 : Zer Tryz.prog 5 (.int .u8 0) := by unfold Zer; kernel_rfl
theorem flat5 : flatB Tryz.prog 5 = true := by kernel_rfl
theorem siz9 : Siz Tryz.prog 9 1 := by unfold Siz; kernel_rfl
theorem byt9 : Byt Tryz.prog 9 16 := by unfold Byt; kernel_rfl
theorem zer9 : Zer Tryz.prog 9 (.string ByteArray.empty) := by unfold Zer; kernel_rfl
theorem flat9 : flatB Tryz.prog 9 = true := by kernel_rfl
theorem siz22 : Siz Tryz.prog 22 1 := by unfold Siz; kernel_rfl
theorem flat22 : flatB Tryz.prog 22 = true := by kernel_rfl
theorem siz23 : Siz Tryz.prog 23 1 := by unfold Siz; kernel_rfl
theorem flat23 : flatB Tryz.prog 23 = true := by kernel_rfl
theorem siz25 : Siz Tryz.prog 25 6 := by unfold Siz; kernel_rfl
theorem byt25 : Byt Tryz.prog 25 80 := by unfold Byt; kernel_rfl
theorem zer25 : Zer Tryz.prog 25 (.agg #[(.int .i64 0), (.slice none 0 0), (.slice none 0 0), (.int .i64 0), (.int .i64 0), (.bool false)]) := by unfold Zer; kernel_rfl
theorem agg25 : aggB Tryz.prog 25 = true := by kernel_rfl
theorem siz26 : Siz Tryz.prog 26 1 := by unfold Siz; kernel_rfl
theorem zer26 : Zer Tryz.prog 26 (.int .i64 0) := by unfold Zer; kernel_rfl
theorem flat26 : flatB Tryz.prog 26 = true := by kernel_rfl
theorem zer48 : Zer Tryz.prog 48 .nilIface := by unfold Zer; kernel_rfl
theorem siz62 : Siz Tryz.prog 62 2 := by unfold Siz; kernel_rfl
theorem byt62 : Byt Tryz.prog 62 16 := by unfold Byt; kernel_rfl
theorem zer62 : Zer Tryz.prog 62 (.agg #[(.int .i64 0), (.int .i64 0)]) := by unfold Zer; kernel_rfl
theorem agg62 : aggB Tryz.prog 62 = true := by kernel_rfl
theorem zer161 : Zer Tryz.prog 161 (.agg #[(.int .u8 0), (.int .u8 0), (.int .u8 0), (.int .u8 0), (.int .u8 0), (.int .u8 0), (.int .u8 0), (.int .u8 0), (.int .u8 0), (.int .u8 0), (.int .u8 0), (.int .u8 0), (.int .u8 0), (.int .u8 0), (.int .u8 0), (.int .u8 0), (.int .u8 0), (.int .u8 0), (.int .u8 0), (.int .u8 0), (.int .u8 0), (.int .u8 0), (.int .u8 0), (.int .u8 0), (.int .u8 0), (.int .u8 0), (.int .u8 0), (.int .u8 0), (.int .u8 0), (.int .u8 0), (.int .u8 0), (.int .u8 0), (.int .u8 0), (.int .u8 0), (.int .u8 0), (.int .u8 0), (.int .u8 0), (.int .u8 0), (.int .u8 0), (.int .u8 0), (.int .u8 0), (.int .u8 0), (.int .u8 0), (.int .u8 0), (.int .u8 0), (.int .u8 0), (.int .u8 0), (.int .u8 0), (.int .u8 0), (.int .u8 0), (.int .u8 0), (.int .u8 0), (.int .u8 0), (.int .u8 0), (.int .u8 0), (.int .u8 0), (.int .u8 0), (.int .u8 0), (.int .u8 0), (.int .u8 0), (.int .u8 0), (.int .u8 0), (.int .u8 0), (.int .u8 0), (.int .u8 0)]) := by unfold Zer; kernel_rfl
theorem nm7 : (Tryz.f7.name == "runtime.NumGoroutine") = false := by kernel_rfl
theorem bd7 : Tryz.f7.body.isNone = false := by kernel_rfl
theorem nm11 : (Tryz.f11.name == "runtime.NumGoroutine") = false := by kernel_rfl
theorem bd11 : Tryz.f11.body.isNone = false := by kernel_rfl
theorem nm12 : (Tryz.f12.name == "runtime.NumGoroutine") = false := by kernel_rfl
theorem bd12 : Tryz.f12.body.isNone = false := by kernel_rfl
theorem nm13 : (Tryz.f13.name == "runtime.NumGoroutine") = false := by kernel_rfl
theorem bd13 : Tryz.f13.body.isNone = false := by kernel_rfl
theorem nm17 : (Tryz.f17.name == "runtime.NumGoroutine") = false := by kernel_rfl
theorem bd17 : Tryz.f17.body.isNone = false := by kernel_rfl
theorem nm18 : (Tryz.f18.name == "runtime.NumGoroutine") = false := by kernel_rfl
theorem bd18 : Tryz.f18.body.isNone = false := by kernel_rfl
theorem nm24 : (Tryz.f24.name == "runtime.NumGoroutine") = false := by kernel_rfl
theorem bd24 : Tryz.f24.body.isNone = false := by kernel_rfl
theorem nm25 : (Tryz.f25.name == "runtime.NumGoroutine") = false := by kernel_rfl
theorem bd25 : Tryz.f25.body.isNone = false := by kernel_rfl
theorem nm26 : (Tryz.f26.name == "runtime.NumGoroutine") = false := by kernel_rfl
theorem bd26 : Tryz.f26.body.isNone = false := by kernel_rfl
theorem nm27 : (Tryz.f27.name == "runtime.NumGoroutine") = false := by kernel_rfl
theorem bd27 : Tryz.f27.body.isNone = false := by kernel_rfl
theorem nm29 : (Tryz.f29.name == "runtime.NumGoroutine") = false := by kernel_rfl
theorem bd29 : Tryz.f29.body.isNone = false := by kernel_rfl
theorem nm31 : (Tryz.f31.name == "runtime.NumGoroutine") = false := by kernel_rfl
theorem bd31 : Tryz.f31.body.isNone = false := by kernel_rfl
theorem nm32 : (Tryz.f32.name == "runtime.NumGoroutine") = false := by kernel_rfl
theorem bd32 : Tryz.f32.body.isNone = false := by kernel_rfl
theorem nm33 : (Tryz.f33.name == "runtime.NumGoroutine") = false := by kernel_rfl
theorem bd33 : Tryz.f33.body.isNone = false := by kernel_rfl
theorem nm39 : (Tryz.f39.name == "runtime.NumGoroutine") = false := by kernel_rfl
theorem bd39 : Tryz.f39.body.isNone = false := by kernel_rfl
theorem nm40 : (Tryz.f40.name == "runtime.NumGoroutine") = false := by kernel_rfl
theorem bd40 : Tryz.f40.body.isNone = false := by kernel_rfl
theorem nm41 : (Tryz.f41.name == "runtime.NumGoroutine") = false := by kernel_rfl
theorem bd41 : Tryz.f41.body.isNone = false := by kernel_rfl
theorem nm42 : (Tryz.f42.name == "runtime.NumGoroutine") = false := by kernel_rfl
theorem bd42 : Tryz.f42.body.isNone = false := by kernel_rfl
theorem nm43 : (Tryz.f43.name == "runtime.NumGoroutine") = false := by kernel_rfl
theorem bd43 : Tryz.f43.body.isNone = false := by kernel_rfl
theorem nm53 : (Tryz.f53.name == "runtime.NumGoroutine") = false := by kernel_rfl
theorem bd53 : Tryz.f53.body.isNone = false := by kernel_rfl
theorem nm54 : (Tryz.f54.name == "runtime.NumGoroutine") = false := by kernel_rfl
theorem bd54 : Tryz.f54.body.isNone = false := by kernel_rfl
theorem nm55 : (Tryz.f55.name == "runtime.NumGoroutine") = false := by kernel_rfl
theorem bd55 : Tryz.f55.body.isNone = false := by kernel_rfl
theorem nm58 : (Tryz.f58.name == "runtime.NumGoroutine") = false := by kernel_rfl
theorem bd58 : Tryz.f58.body.isNone = false := by kernel_rfl
theorem nm60 : (Tryz.f60.name == "runtime.NumGoroutine") = false := by kernel_rfl
theorem bd60 : Tryz.f60.body.isNone = false := by kernel_rfl
theorem nm66 : (Tryz.f66.name == "runtime.NumGoroutine") = false := by kernel_rfl
theorem bd66 : Tryz.f66.body.isNone = false := by kernel_rfl
theorem nm67 : (Tryz.f67.name == "runtime.NumGoroutine") = false := by kernel_rfl
theorem bd67 : Tryz.f67.body.isNone = false := by kernel_rfl
theorem nm68 : (Tryz.f68.name == "runtime.NumGoroutine") = false := by kernel_rfl
theorem bd68 : Tryz.f68.body.isNone = false := by kernel_rfl
theorem nm69 : (Tryz.f69.name == "runtime.NumGoroutine") = false := by kernel_rfl
theorem bd69 : Tryz.f69.body.isNone = false := by kernel_rfl
theorem nm70 : (Tryz.f70.name == "runtime.NumGoroutine") = false := by kernel_rfl
theorem bd70 : Tryz.f70.body.isNone = false := by kernel_rfl
theorem nm73 : (Tryz.f73.name == "runtime.NumGoroutine") = false := by kernel_rfl
theorem bd73 : Tryz.f73.body.isNone = false := by kernel_rfl
theorem nm74 : (Tryz.f74.name == "runtime.NumGoroutine") = false := by kernel_rfl
theorem bd74 : Tryz.f74.body.isNone = false := by kernel_rfl
theorem nm78 : (Tryz.f78.name == "runtime.NumGoroutine") = false := by kernel_rfl
theorem bd78 : Tryz.f78.body.isNone = false := by kernel_rfl
theorem nm79 : (Tryz.f79.name == "runtime.NumGoroutine") = false := by kernel_rfl
theorem bd79 : Tryz.f79.body.isNone = false := by kernel_rfl
theorem nm84 : (Tryz.f84.name == "runtime.NumGoroutine") = false := by kernel_rfl
theorem bd84 : Tryz.f84.body.isNone = false := by kernel_rfl
theorem nm89 : (Tryz.f89.name == "runtime.NumGoroutine") = false := by kernel_rfl
theorem bd89 : Tryz.f89.body.isNone = false := by kernel_rfl
theorem nm90 : (Tryz.f90.name == "runtime.NumGoroutine") = false := by kernel_rfl
theorem bd90 : Tryz.f90.body.isNone = false := by kernel_rfl
theorem nm94 : (Tryz.f94.name == "runtime.NumGoroutine") = false := by kernel_rfl
theorem bd94 : Tryz.f94.body.isNone = false := by kernel_rfl
theorem nm98 : (Tryz.f98.name == "runtime.NumGoroutine") = false := by kernel_rfl
theorem bd98 : Tryz.f98.body.isNone = false := by kernel_rfl
theorem nm99 : (Tryz.f99.name == "runtime.NumGoroutine") = false := by kernel_rfl
theorem bd99 : Tryz.f99.body.isNone = false := by kernel_rfl
theorem nm100 : (Tryz.f100.name == "runtime.NumGoroutine") = false := by kernel_rfl
theorem bd100 : Tryz.f100.body.isNone = false := by kernel_rfl
theorem nm101 : (Tryz.f101.name == "runtime.NumGoroutine") = false := by kernel_rfl
theorem bd101 : Tryz.f101.body.isNone = false := by kernel_rfl
theorem nm110 : (Tryz.f110.name == "runtime.NumGoroutine") = false := by kernel_rfl
theorem bd110 : Tryz.f110.body.isNone = false := by kernel_rfl
theorem nm117 : (Tryz.f117.name == "runtime.NumGoroutine") = false := by kernel_rfl
theorem bd117 : Tryz.f117.body.isNone = false := by kernel_rfl
theorem nm118 : (Tryz.f118.name == "runtime.NumGoroutine") = false := by kernel_rfl
theorem bd118 : Tryz.f118.body.isNone = false := by kernel_rfl
theorem nm120 : (Tryz.f120.name == "runtime.NumGoroutine") = false := by kernel_rfl
theorem bd120 : Tryz.f120.body.isNone = false := by kernel_rfl
theorem nm122 : (Tryz.f122.name == "runtime.NumGoroutine") = false := by kernel_rfl
theorem bd122 : Tryz.f122.body.isNone = false := by kernel_rfl
theorem nm123 : (Tryz.f123.name == "runtime.NumGoroutine") = false := by kernel_rfl
theorem bd123 : Tryz.f123.body.isNone = false := by kernel_rfl
theorem nm132 : (Tryz.f132.name == "runtime.NumGoroutine") = false := by kernel_rfl
theorem bd132 : Tryz.f132.body.isNone = false := by kernel_rfl
theorem nm133 : (Tryz.f133.name == "runtime.NumGoroutine") = false := by kernel_rfl
theorem bd133 : Tryz.f133.body.isNone = false := by kernel_rfl
theorem nm134 : (Tryz.f134.name == "runtime.NumGoroutine") = false := by kernel_rfl
theorem bd134 : Tryz.f134.body.isNone = false := by kernel_rfl
theorem nm135 : (Tryz.f135.name == "runtime.NumGoroutine") = false := by kernel_rfl
theorem bd135 : Tryz.f135.body.isNone = false := by kernel_rfl
theorem nm138 : (Tryz.f138.name == "runtime.NumGoroutine") = false := by kernel_rfl
theorem bd138 : Tryz.f138.body.isNone = false := by kernel_rfl
theorem nm140 : (Tryz.f140.name == "runtime.NumGoroutine") = false := by kernel_rfl
theorem bd140 : Tryz.f140.body.isNone = false := by kernel_rfl
theorem nm143 : (Tryz.f143.name == "runtime.NumGoroutine") = false := by kernel_rfl
theorem bd143 : Tryz.f143.body.isNone = false := by kernel_rfl
theorem nm144 : (Tryz.f144.name == "runtime.NumGoroutine") = false := by kernel_rfl
theorem bd144 : Tryz.f144.body.isNone = false := by kernel_rfl
theorem nm145 : (Tryz.f145.name == "runtime.NumGoroutine") = false := by kernel_rfl
theorem bd145 : Tryz.f145.body.isNone = false := by kernel_rfl
theorem nm146 : (Tryz.f146.name == "runtime.NumGoroutine") = false := by kernel_rfl
theorem bd146 : Tryz.f146.body.isNone = false := by kernel_rfl
theorem nm148 : (Tryz.f148.name == "runtime.NumGoroutine") = false := by kernel_rfl
theorem bd148 : Tryz.f148.body.isNone = false := by kernel_rfl
theorem nm149 : (Tryz.f149.name == "runtime.NumGoroutine") = false := by kernel_rfl
theorem bd149 : Tryz.f149.body.isNone = false := by kernel_rfl
theorem nm150 : (Tryz.f150.name == "runtime.NumGoroutine") = false := by kernel_rfl
theorem bd150 : Tryz.f150.body.isNone = false := by kernel_rfl
theorem nm151 : (Tryz.f151.name == "runtime.NumGoroutine") = false := by kernel_rfl
theorem bd151 : Tryz.f151.body.isNone = false := by kernel_rfl
theorem nm159 : (Tryz.f159.name == "runtime.NumGoroutine") = false := by kernel_rfl
theorem bd159 : Tryz.f159.body.isNone = false := by kernel_rfl
theorem nm171 : (Tryz.f171.name == "runtime.NumGoroutine") = false := by kernel_rfl
theorem bd171 : Tryz.f171.body.isNone = false := by kernel_rfl
theorem nm179 : (Tryz.f179.name == "runtime.NumGoroutine") = false := by kernel_rfl
theorem bd179 : Tryz.f179.body.isNone = false := by kernel_rfl
theorem nm182 : (Tryz.f182.name == "runtime.NumGoroutine") = false := by kernel_rfl
theorem bd182 : Tryz.f182.body.isNone = false := by kernel_rfl
theorem nm196 : (Tryz.f196.name == "runtime.NumGoroutine") = false := by kernel_rfl
theorem bd196 : Tryz.f196.body.isNone = false := by kernel_rfl
theorem mixed : Tryz.prog.follows .mixedOrders = true := by kernel_rfl
end Go.Proofs
namespace Go.Proofs
open Go Go.Eng
set_option linter.unusedSectionVars false
variable [Drw]
set_option maxRecDepth 100000
theorem walk_c {S : Type} (F : S → Re → Bool × S) (Inv : S → World → Prop) (M : Nat → Prop) (bd : Nat) (fv : Value) (wb : World)
    (hM : ∀ b, M b → wb.heap.size ≤ b ∧ b < bd) (hst : ∀ s w w', Inv s w → Ext w w' → Inv s w')
    (hf : ∀ s w t vs, bd ≤ w.heap.size → Ext wb w → Inv s w → ReAt wb t vs → CallV Tryz.prog fv #[.agg vs.toArray] w fun v w' => v = .bool (F s t).1 ∧ Chg M w w' ∧ Inv (F s t).2 w') :
    ∀ n t, t.size ≤ n → ∀ s w0 vs, bd ≤ w0.heap.size → Ext wb w0 → Inv s w0 → ReAt wb t vs →
      Ret Tryz.prog 66 #[.agg vs.toArray, fv] w0 fun v w' => v = .bool (walkF F t s).1 ∧ Chg M w0 w' ∧ Inv (walkF F t s).2 w' := by
  have toExt : ∀ {w w' : World}, Ext wb w → Chg M w w' → Ext wb w' := fun e c => Chg.step e c fun x hx hm => by have := (hM x hm).1; omega
  intro n
  induction n with
  | zero => intro t ht; have := t.size_pos; omega
  | succ n ih =>
  intro t hn s w0 vs hbd hE hI ht
  obtain ⟨sa, sc, aa, ac, rfl, hset, hlen, hargs⟩ := ht.form
  rw [walkF_eq]
  refine Ret_of Tryz.func66 rfl Tryz.ntmps66 (Nat.le_of_ble_eq_true rfl) ?_
  have E : Chg M w0 w0 := Chg.refl _ _
  refine Wp_seq_region ?_
  refine s_box (v := (.agg (R6 t sa sc aa ac))) (c := (R6 t sa sc aa ac)) (by decide) rfl rfl ?_
  intro b1 w1 N1
  have F1 := N1.ge E
  replace hI := hst _ _ _ hI N1.ext
  replace E := E.ext N1.ext
  have B1 := N1.blk
  refine qA (.bool false) rfl ?_
  refine WpL_nil (Wp_seq (Wp_seq_region ?_))
  refine qM fv rfl ?_
  refine qV (r_loadAgg (vs := [(I6 t.kind), (.slice sa t.set.length sc), (.slice aa t.args.length ac), (I6 t.mn), (I6 t.mx), (.bool t.neg)]) rfl agg25 siz25 rfl (B1.cells rfl)) ?_
  refine WpL_callV (fv := fv) (vs := [(.agg (R6 t sa sc aa ac))]) (by decide) rfl rfl (hf s _ t _ (by have := N1.size; omega) (hE.trans N1.ext) hI ht) ?_
  rintro _ w2 ⟨rfl, C2, hI⟩
  replace B1 := C2.keep (fun h => by have := (hM _ h).2; omega) B1
  replace E := E.trans C2
  have hE2 : Ext wb w2 := toExt hE E
  have z2 : bd ≤ w2.heap.size := by have := C2.size; have := N1.size; omega
  refine qV (r_not (b := (F s t).1) rfl) ?_
  refine WpL_nil ?_
  refine Wp_cond (b := !((F s t).1)) rfl (fun h => ?_) (fun h => ?_)
  · have kh := h
    replace h := by simpa using h
    refine Wp_seq_region ?_
    refine qA (.bool false) rfl ?_
    refine WpL_nil (Wp_ret (thn_ret ?_))
    refine fin_tmp Tryz.results66 (v := (.bool false)) rfl ?_
    exact ⟨by rw [if_neg (by simp [h])], E, by rw [if_neg (by simp [h])]; exact hI⟩
  · have kh := h
    replace h := by simpa using h
    rw [if_pos (by simpa using h)]
    generalize (F s t).2 = s1 at hI ⊢
    refine Wp_skip (thn_normal (Wp_seq (Wp_seq_region ?_)))
    refine qF b1 0 2 rfl Tryz.underlying25 rfl siz23 rfl ?_
    refine qV (r_load (v := (.slice aa t.args.length ac)) rfl flat23 (B1.cell rfl)) ?_
    refine qV (r_lenSlice (ad := aa) (n := t.args.length) (cap := ac) Tryz.underlying23 rfl) ?_
    refine qM (I6 0) rfl ?_
    refine WpL_nil (Wp_block ?_)
    refine Wp_loop (fun nn_ σ W3 => ∃ (k : Nat) (s' : S), (∃ jj_, σ = upds jj_ [(1, fv), (12, (.slice aa t.args.length ac)), (13, (I6 (t.args.length : Int))), (14, (I6 (k : Int)))]) ∧ Chg M w0 W3 ∧ Blk W3 b1 (R6 t sa sc aa ac) 25 ∧ (k ≤ t.args.length) ∧ (bd ≤ W3.heap.size) ∧ (Inv s' W3) ∧ (walkFs F t.args s1 = walkFs F (t.args.drop k) s') ∧ nn_ = t.args.length - k) (n := t.args.length - 0) ?_ ?_
    · exact ⟨0, s1, Fits.out ⟨rfl, rfl, rfl, rfl, trivial⟩, E, B1, Nat.zero_le _, z2, hI, rfl, rfl⟩
    · clear E B1
      rintro _ _ W3 ⟨k, s', ⟨j3, rfl⟩, E, B1, hk, hz, hI, hrel, rfl⟩
      refine Wp_seq_region ?_
      refine qV (r_lss (k := .i64) (a := (k : Int)) (b := (t.args.length : Int)) rfl rfl) ?_
      refine WpL_nil (Wp_seq ?_)
      refine Wp_cond (b := decide (((k : Int) : Int) < (t.args.length : Int))) rfl (fun hlt => ?_) (fun hlt => ?_)
      · have khlt := hlt
        replace hlt := of_decide_eq_true hlt
        have hlt' : k < t.args.length := by omega
        obtain ⟨x, hx⟩ : ∃ x, t.args[k]? = some x := ⟨_, List.getElem?_eq_getElem hlt'⟩
        obtain ⟨b, o, rfl, hres⟩ : ∃ b o, aa = some ⟨b, o, none⟩ ∧ ResAt wb b o t.args := by
          rcases hargs with h | h
          · rw [h] at hlt'; simp at hlt'
          · exact h
        obtain ⟨us, hus, hxt⟩ := hres.get hx
        have hEW : Ext wb _ := toExt hE E
        refine Wp_skip (thn_normal (Wp_seq (Wp_block (Wp_seq_region ?_))))
        refine qV (r_indexSlice (b := b) (o := o) (len := t.args.length) (cap := ac) (i := k) (o' := o + k * 6) rfl rfl rfl Tryz.underlying23 siz25 (by omega) (by omega)) ?_
        refine qV (r_loadAgg (vs := us) rfl agg25 siz25 hxt.len (hus.ext hEW)) ?_
        have hsz := Re.size_arg hx
        refine s_allocStore (v := (.agg us.toArray)) (c := us.toArray) (n := 6) (by decide) zer25 rfl siz25 rfl rfl (by simpa using hxt.len) (by simpa using ReAt.one hxt) ?_
        intro b5 w5 N5
        have F5 := N5.ge E
        have O5_b1 := N5.lt B1
        replace B1 := N5.keep B1
        replace hI := hst _ _ _ hI N5.ext
        replace E := E.ext N5.ext
        have B5 := N5.blk
        refine WpL_nil (Wp_seq_region ?_)
        refine qV (r_loadAgg (vs := us) rfl agg25 siz25 hxt.len (B5.cells (by simp))) ?_
        refine qM fv rfl ?_
        refine WpL_enter rfl rfl (by decide) (r_callF (vs := [(.agg us.toArray), fv]) Tryz.func66 nm66 bd66 rfl) (ih x (by omega) s' _ us (by have := N5.size; omega) (toExt hE E) hI hxt) ?_
        rintro _ w9 ⟨rfl, C9, hI⟩
        replace B1 := C9.keep (fun h => by have := (hM _ h).2; omega) B1
        replace B5 := C9.keep (fun h => by have := (hM _ h).2; omega) B5
        replace E := E.trans C9
        have hdr : t.args.drop k = x :: t.args.drop (k + 1) := by rw [List.drop_eq_getElem_cons hlt']; rw [List.getElem?_eq_getElem hlt'] at hx; cases hx; rfl
        rw [hdr, walkFs_cons] at hrel
        refine qV (r_not (b := (walkF F x s').1) rfl) ?_
        refine WpL_nil ?_
        refine Wp_cond (b := !((walkF F x s').1)) rfl (fun h2 => ?_) (fun h2 => ?_)
        · have kh2 := h2
          replace h2 := by simpa using h2
          refine Wp_seq_region ?_
          refine qA (.bool false) rfl ?_
          refine WpL_nil (Wp_ret (inB_ret (thn_ret (thn_ret (inB_ret (thn_ret ?_))))))
          refine fin_tmp Tryz.results66 (v := (.bool false)) rfl ?_
          exact ⟨by rw [hrel, if_neg (by simp [h2])], E, by rw [hrel, if_neg (by simp [h2])]; exact hI⟩
        · have kh2 := h2
          replace h2 := by simpa using h2
          rw [if_pos (by simpa using h2)] at hrel
          refine Wp_skip (inB_normal (thn_normal (Wp_region ?_)))
          refine qV (r_add (k := .i64) (a := (k : Int)) (b := 1) (c := (k : Int) + 1) rfl rfl (wI64 (by omega))) ?_
          refine qM (I6 ((k : Int) + 1)) rfl ?_
          refine WpL_nil (thn_normal ?_)
          exact ⟨t.args.length - (k + 1), by omega, k + 1, (walkF F x s').2, Fits.out ⟨rfl, rfl, rfl, rfl, trivial⟩, E, B1, (by omega), (by have := C9.size; have := N5.size; omega), hI, hrel, rfl⟩
      · have khlt := hlt
        replace hlt := of_decide_eq_false hlt
        have hkk : k = t.args.length := by omega
        rw [hkk, List.drop_length] at hrel
        refine Wp_exit (thn_exit (thn_exit (inB_here (thn_normal (Wp_seq_region ?_)))))
        refine qA (.bool true) rfl ?_
        refine WpL_nil (Wp_ret ?_)
        refine fin_tmp Tryz.results66 (v := (.bool true)) rfl ?_
        exact ⟨by rw [hrel]; rfl, E, by rw [hrel]; exact hI⟩
end Go.Proofs
namespace Go.Proofs
open Go Go.Eng
set_option linter.unusedSectionVars false
variable [Drw]
set_option maxRecDepth 100000
def validB (s : Int × Int) : Bool := (decide (0 ≤ s.1) && decide (s.1 ≤ s.2)) && decide (s.2 ≤ 1114111)
theorem valid_c (s : Int × Int) (w0 : World) :
  Ret Tryz.prog 110 #[.agg #[.int .i64 s.1, .int .i64 s.2]] w0 fun v w => v = .bool (validB s) ∧ Ext w0 w := by
 refine Ret_of Tryz.func110 rfl Tryz.ntmps110 (Nat.le_of_ble_eq_true rfl) ?_
 have E : Chg none1 w0 w0 := Chg.refl _ _
 refine Wp_seq_region ?_
 refine s_box (v := (.agg #[(I6 s.1), (I6 s.2)])) (c := #[(I6 s.1), (I6 s.2)]) (by decide) rfl rfl ?_
 intro b1 w1 N1
 have F1 := N1.ge E
 replace E := E.ext N1.ext
 have B1 := N1.blk
 refine qA (.bool false) rfl ?_
 refine WpL_nil (Wp_seq_region ?_)
 refine qF b1 0 0 rfl Tryz.underlying62 rfl siz3 rfl ?_
 refine qV (r_load (v := (I6 s.1)) rfl flat3 (B1.cell rfl)) ?_
 obtain ⟨e2, he2⟩ : ∃ e, (decide ((0 : Int) ≤ s.1)) = e := ⟨_, rfl⟩
 refine qV ((r_geq (k := .i64) (a := s.1) (b := 0) rfl rfl).trans (by rw [he2]; try rfl)) ?_
 refine qM (.bool e2) rfl ?_
 refine qG (.bool e2) (yU e2 (P6 b1 0)) (by cases e2 <;> first | exact gA | exact gB | exact .inl ⟨rfl, r_fieldAddr (b := b1) (o := 0) (o' := 0) rfl Tryz.underlying62 rfl siz3 rfl⟩) ?_
 refine qG (.bool e2) (yU e2 (I6 s.1)) (by cases e2 <;> first | exact gA | exact gB | exact .inl ⟨rfl, r_load (v := (I6 s.1)) rfl flat3 (B1.cell rfl)⟩) ?_
 refine qG (.bool e2) (yU e2 (P6 b1 1)) (by cases e2 <;> first | exact gA | exact gB | exact .inl ⟨rfl, r_fieldAddr (b := b1) (o := 0) (o' := 1) rfl Tryz.underlying62 rfl siz3 rfl⟩) ?_
 refine qG (.bool e2) (yU e2 (I6 s.2)) (by cases e2 <;> first | exact gA | exact gB | exact .inl ⟨rfl, r_load (v := (I6 s.2)) rfl flat3 (B1.cell rfl)⟩) ?_
 obtain ⟨e3, he3⟩ : ∃ e, (decide ((s.1 : Int) ≤ s.2)) = e := ⟨_, rfl⟩
 refine qG (.bool e2) (yU e2 (.bool e3)) (by cases e2 <;> first | exact gA | exact gB | exact .inl ⟨rfl, (r_leq (k := .i64) (a := s.1) (b := s.2) rfl rfl).trans (by rw [he3]; try rfl)⟩) ?_
 obtain ⟨e4, he4⟩ : ∃ e, (e2 && e3) = e := ⟨_, rfl⟩
 refine qV (r_pick (b := e2) (v := .bool e4) rfl (by rw [← he4]; cases e2 <;> rfl)) ?_
 refine qM (.bool e4) rfl ?_
 refine qG (.bool e4) (yU e4 (P6 b1 1)) (by cases e4 <;> first | exact gA | exact gB | exact .inl ⟨rfl, r_fieldAddr (b := b1) (o := 0) (o' := 1) rfl Tryz.underlying62 rfl siz3 rfl⟩) ?_
 refine qG (.bool e4) (yU e4 (I6 s.2)) (by cases e4 <;> first | exact gA | exact gB | exact .inl ⟨rfl, r_load (v := (I6 s.2)) rfl flat3 (B1.cell rfl)⟩) ?_
 obtain ⟨e5, he5⟩ : ∃ e, (decide ((s.2 : Int) ≤ 1114111)) = e := ⟨_, rfl⟩
 refine qG (.bool e4) (yU e4 (.bool e5)) (by cases e4 <;> first | exact gA | exact gB | exact .inl ⟨rfl, (r_leq (k := .i64) (a := s.2) (b := 1114111) rfl rfl).trans (by rw [he5]; try rfl)⟩) ?_
 obtain ⟨e6, he6⟩ : ∃ e, (e4 && e5) = e := ⟨_, rfl⟩
 refine qV (r_pick (b := e4) (v := .bool e6) rfl (by rw [← he6]; cases e4 <;> rfl)) ?_
 refine qA (.bool e6) rfl ?_
 refine WpL_nil ?_
 subst he6
 subst he5
 subst he4
 subst he3
 subst he2
 refine Wp_ret ?_
 refine fin_tmp Tryz.results110 (v := (.bool (((decide ((0 : Int) ≤ s.1)) && (decide ((s.1 : Int) ≤ s.2))) && (decide ((s.2 : Int) ≤ 1114111))))) rfl ?_
 exact ⟨rfl, E⟩
def okB (k n : Int) : Bool := if k = 3 ∨ k = 4 ∨ k = 7 then decide (2 ≤ n) else if k = 5 ∨ k = 6 ∨ k = 8 ∨ k = 9 ∨ k = 10 then decide (n = 1) else decide (n = 0)
def formB (t : Re) : Bool :=
 (((okB t.kind t.args.length && (decide (t.kind = 2) || decide ((t.set.length : Int) = 0))) && ((decide (t.kind = 6) || decide (t.kind = 9)) || decide (t.mn = 0))) && (decide (t.kind = 6) || decide (t.mx = 0))) && (decide (t.kind = 10) || !t.neg)
set_option maxHeartbeats 400000 in
theorem form_c (wb w0 : World) (t : Re) (vs : List Value) (ht : ReAt wb t vs) :
  Ret Tryz.prog 89 #[.agg vs.toArray] w0 fun v w => v = .bool (formB t) ∧ Ext w0 w := by
 obtain ⟨sa, sc, aa, ac, rfl, hset, hlen, hargs⟩ := ht.form
 refine Ret_of Tryz.func89 rfl Tryz.ntmps89 (Nat.le_of_ble_eq_true rfl) ?_
 have E : Chg none1 w0 w0 := Chg.refl _ _
 refine Wp_seq_region ?_
 refine s_box (v := (.agg (R6 t sa sc aa ac))) (c := (R6 t sa sc aa ac)) (by decide) rfl rfl ?_
 intro b1 w1 N1
 have F1 := N1.ge E
 replace E := E.ext N1.ext
 have B1 := N1.blk
 refine qA (.bool false) rfl ?_
 refine WpL_nil (Wp_seq_region ?_)
 refine qF b1 0 2 rfl Tryz.underlying25 rfl siz23 rfl ?_
 refine qV (r_load (v := (.slice aa t.args.length ac)) rfl flat23 (B1.cell rfl)) ?_
 refine qV (r_lenSlice (ad := aa) (n := t.args.length) (cap := ac) Tryz.underlying23 rfl) ?_
 refine qA (I6 (t.args.length : Int)) rfl ?_
 refine WpL_nil (Wp_seq_region ?_)
 refine qM (I6 (t.args.length : Int)) rfl ?_
 refine qV (r_eql (k := .i64) (a := (t.args.length : Int)) (b := 0) rfl rfl) ?_
 refine qA (.bool (decide (((t.args.length : Int) : Int) = 0))) rfl ?_
 refine WpL_nil ?_
 refine Wp_cut (fun σ W2 => ∃ (ok : Bool), (∃ jj_, σ = upds jj_ [(1, (P6 b1 0)), (4, (.bool ok))]) ∧ Chg none1 w0 W2 ∧ Blk W2 b1 (R6 t sa sc aa ac) 25 ∧ (ok = okB t.kind t.args.length)) ?_ ?_
 ·skip
  refine Wp_seq_region ?_
  refine qF b1 0 0 rfl Tryz.underlying25 rfl siz3 rfl ?_
  refine qV (r_load (v := (I6 t.kind)) rfl flat3 (B1.cell rfl)) ?_
  refine WpL_nil (Wp_block (Wp_seq (Wp_seq_region ?_)))
  refine qV (r_eql (k := .i64) (a := t.kind) (b := 3) rfl rfl) ?_
  refine qA (.bool (decide ((t.kind : Int) = 3))) rfl ?_
  refine WpL_nil ?_
  refine Wp_cond (b := decide ((t.kind : Int) = 3)) rfl (fun hc3 => ?_) (fun hc3 => ?_)
  ·have khc3 := hc3
   replace hc3 := of_decide_eq_true hc3
   refine Wp_skip (thn_normal ?_)
   refine Wp_cond_true (congrArg Value.bool khc3) ?_
   refine Wp_region ?_
   refine qM (I6 (t.args.length : Int)) rfl ?_
   refine qV (r_geq (k := .i64) (a := (t.args.length : Int)) (b := 2) rfl rfl) ?_
   refine qA (.bool (decide ((2 : Int) ≤ (t.args.length : Int)))) rfl ?_
   refine WpL_nil (inB_normal (thn_normal ?_))
   exact ⟨(decide ((2 : Int) ≤ ((t.args.length : Nat) : Int))), Fits.out ⟨rfl, rfl, trivial⟩, E, B1, (by unfold okB; (repeat' split) <;> first | rfl | omega)⟩
  ·have khc3 := hc3
   replace hc3 := of_decide_eq_false hc3
   refine Wp_seq_region ?_
   refine qV (r_eql (k := .i64) (a := t.kind) (b := 4) rfl rfl) ?_
   refine qA (.bool (decide ((t.kind : Int) = 4))) rfl ?_
   refine WpL_nil ?_
   refine Wp_cond (b := decide ((t.kind : Int) = 4)) rfl (fun hc4 => ?_) (fun hc4 => ?_)
   ·have khc4 := hc4
    replace hc4 := of_decide_eq_true hc4
    refine Wp_skip (thn_normal ?_)
    refine Wp_cond_true (congrArg Value.bool khc4) ?_
    refine Wp_region ?_
    refine qM (I6 (t.args.length : Int)) rfl ?_
    refine qV (r_geq (k := .i64) (a := (t.args.length : Int)) (b := 2) rfl rfl) ?_
    refine qA (.bool (decide ((2 : Int) ≤ (t.args.length : Int)))) rfl ?_
    refine WpL_nil (inB_normal (thn_normal ?_))
    exact ⟨(decide ((2 : Int) ≤ ((t.args.length : Nat) : Int))), Fits.out ⟨rfl, rfl, trivial⟩, E, B1, (by unfold okB; (repeat' split) <;> first | rfl | omega)⟩
   ·have khc4 := hc4
    replace hc4 := of_decide_eq_false hc4
    refine Wp_region ?_
    refine qV (r_eql (k := .i64) (a := t.kind) (b := 7) rfl rfl) ?_
    refine qA (.bool (decide ((t.kind : Int) = 7))) rfl ?_
    refine WpL_nil (thn_normal ?_)
    refine Wp_cond (b := decide ((t.kind : Int) = 7)) rfl (fun hc5 => ?_) (fun hc5 => ?_)
    ·have khc5 := hc5
     replace hc5 := of_decide_eq_true hc5
     refine Wp_region ?_
     refine qM (I6 (t.args.length : Int)) rfl ?_
     refine qV (r_geq (k := .i64) (a := (t.args.length : Int)) (b := 2) rfl rfl) ?_
     refine qA (.bool (decide ((2 : Int) ≤ (t.args.length : Int)))) rfl ?_
     refine WpL_nil (inB_normal (thn_normal ?_))
     exact ⟨(decide ((2 : Int) ≤ ((t.args.length : Nat) : Int))), Fits.out ⟨rfl, rfl, trivial⟩, E, B1, (by unfold okB; (repeat' split) <;> first | rfl | omega)⟩
    ·have khc5 := hc5
     replace hc5 := of_decide_eq_false hc5
     refine Wp_seq (Wp_seq_region ?_)
     refine qV (r_eql (k := .i64) (a := t.kind) (b := 5) rfl rfl) ?_
     refine qA (.bool (decide ((t.kind : Int) = 5))) rfl ?_
     refine WpL_nil ?_
     refine Wp_cond (b := decide ((t.kind : Int) = 5)) rfl (fun hc6 => ?_) (fun hc6 => ?_)
     ·have khc6 := hc6
      replace hc6 := of_decide_eq_true hc6
      refine Wp_skip (thn_normal ?_)
      refine Wp_cond_true (congrArg Value.bool khc6) ?_
      refine Wp_region ?_
      refine qM (I6 (t.args.length : Int)) rfl ?_
      refine qV (r_eql (k := .i64) (a := (t.args.length : Int)) (b := 1) rfl rfl) ?_
      refine qA (.bool (decide (((t.args.length : Int) : Int) = 1))) rfl ?_
      refine WpL_nil (inB_normal (thn_normal ?_))
      exact ⟨(decide ((((t.args.length : Nat) : Int) : Int) = 1)), Fits.out ⟨rfl, rfl, trivial⟩, E, B1, (by unfold okB; (repeat' split) <;> first | rfl | omega)⟩
     ·have khc6 := hc6
      replace hc6 := of_decide_eq_false hc6
      refine Wp_seq_region ?_
      refine qV (r_eql (k := .i64) (a := t.kind) (b := 6) rfl rfl) ?_
      refine qA (.bool (decide ((t.kind : Int) = 6))) rfl ?_
      refine WpL_nil ?_
      refine Wp_cond (b := decide ((t.kind : Int) = 6)) rfl (fun hc7 => ?_) (fun hc7 => ?_)
      ·have khc7 := hc7
       replace hc7 := of_decide_eq_true hc7
       refine Wp_skip (thn_normal ?_)
       refine Wp_cond_true (congrArg Value.bool khc7) ?_
       refine Wp_region ?_
       refine qM (I6 (t.args.length : Int)) rfl ?_
       refine qV (r_eql (k := .i64) (a := (t.args.length : Int)) (b := 1) rfl rfl) ?_
       refine qA (.bool (decide (((t.args.length : Int) : Int) = 1))) rfl ?_
       refine WpL_nil (inB_normal (thn_normal ?_))
       exact ⟨(decide ((((t.args.length : Nat) : Int) : Int) = 1)), Fits.out ⟨rfl, rfl, trivial⟩, E, B1, (by unfold okB; (repeat' split) <;> first | rfl | omega)⟩
      ·have khc7 := hc7
       replace hc7 := of_decide_eq_false hc7
       refine Wp_seq_region ?_
       refine qV (r_eql (k := .i64) (a := t.kind) (b := 8) rfl rfl) ?_
       refine qA (.bool (decide ((t.kind : Int) = 8))) rfl ?_
       refine WpL_nil ?_
       refine Wp_cond (b := decide ((t.kind : Int) = 8)) rfl (fun hc8 => ?_) (fun hc8 => ?_)
       ·have khc8 := hc8
        replace hc8 := of_decide_eq_true hc8
        refine Wp_skip (thn_normal ?_)
        refine Wp_cond_true (congrArg Value.bool khc8) ?_
        refine Wp_region ?_
        refine qM (I6 (t.args.length : Int)) rfl ?_
        refine qV (r_eql (k := .i64) (a := (t.args.length : Int)) (b := 1) rfl rfl) ?_
        refine qA (.bool (decide (((t.args.length : Int) : Int) = 1))) rfl ?_
        refine WpL_nil (inB_normal (thn_normal ?_))
        exact ⟨(decide ((((t.args.length : Nat) : Int) : Int) = 1)), Fits.out ⟨rfl, rfl, trivial⟩, E, B1, (by unfold okB; (repeat' split) <;> first | rfl | omega)⟩
       ·have khc8 := hc8
        replace hc8 := of_decide_eq_false hc8
        refine Wp_seq_region ?_
        refine qV (r_eql (k := .i64) (a := t.kind) (b := 9) rfl rfl) ?_
        refine qA (.bool (decide ((t.kind : Int) = 9))) rfl ?_
        refine WpL_nil ?_
        refine Wp_cond (b := decide ((t.kind : Int) = 9)) rfl (fun hc9 => ?_) (fun hc9 => ?_)
        ·have khc9 := hc9
         replace hc9 := of_decide_eq_true hc9
         refine Wp_skip (thn_normal ?_)
         refine Wp_cond_true (congrArg Value.bool khc9) ?_
         refine Wp_region ?_
         refine qM (I6 (t.args.length : Int)) rfl ?_
         refine qV (r_eql (k := .i64) (a := (t.args.length : Int)) (b := 1) rfl rfl) ?_
         refine qA (.bool (decide (((t.args.length : Int) : Int) = 1))) rfl ?_
         refine WpL_nil (inB_normal (thn_normal ?_))
         exact ⟨(decide ((((t.args.length : Nat) : Int) : Int) = 1)), Fits.out ⟨rfl, rfl, trivial⟩, E, B1, (by unfold okB; (repeat' split) <;> first | rfl | omega)⟩
        ·have khc9 := hc9
         replace hc9 := of_decide_eq_false hc9
         refine Wp_region ?_
         refine qV (r_eql (k := .i64) (a := t.kind) (b := 10) rfl rfl) ?_
         refine qA (.bool (decide ((t.kind : Int) = 10))) rfl ?_
         refine WpL_nil (thn_normal ?_)
         refine Wp_cond (b := decide ((t.kind : Int) = 10)) rfl (fun hc10 => ?_) (fun hc10 => ?_)
         ·have khc10 := hc10
          replace hc10 := of_decide_eq_true hc10
          refine Wp_region ?_
          refine qM (I6 (t.args.length : Int)) rfl ?_
          refine qV (r_eql (k := .i64) (a := (t.args.length : Int)) (b := 1) rfl rfl) ?_
          refine qA (.bool (decide (((t.args.length : Int) : Int) = 1))) rfl ?_
          refine WpL_nil (inB_normal (thn_normal ?_))
          exact ⟨(decide ((((t.args.length : Nat) : Int) : Int) = 1)), Fits.out ⟨rfl, rfl, trivial⟩, E, B1, (by unfold okB; (repeat' split) <;> first | rfl | omega)⟩
         ·have khc10 := hc10
          replace hc10 := of_decide_eq_false hc10
          refine Wp_skip (inB_normal (thn_normal ?_))
          exact ⟨(decide ((((t.args.length : Nat) : Int) : Int) = 0)), Fits.out ⟨rfl, rfl, trivial⟩, E, B1, (by unfold okB; (repeat' split) <;> first | rfl | omega)⟩
 ·clear E B1
  rintro _ W2 ⟨ok, ⟨j2, rfl⟩, E, B1, hok⟩
  refine Wp_seq_region ?_
  refine qM (.bool ok) rfl ?_
  refine qM (.bool ok) rfl ?_
  refine qG (.bool ok) (yU ok (P6 b1 0)) (by cases ok <;> first | exact gA | exact gB | exact .inl ⟨rfl, r_fieldAddr (b := b1) (o := 0) (o' := 0) rfl Tryz.underlying25 rfl siz3 rfl⟩) ?_
  refine qG (.bool ok) (yU ok (I6 t.kind)) (by cases ok <;> first | exact gA | exact gB | exact .inl ⟨rfl, r_load (v := (I6 t.kind)) rfl flat3 (B1.cell rfl)⟩) ?_
  obtain ⟨e11, he11⟩ : ∃ e, (decide ((t.kind : Int) = 2)) = e := ⟨_, rfl⟩
  refine qG (.bool ok) (yU ok (.bool e11)) (by cases ok <;> first | exact gA | exact gB | exact .inl ⟨rfl, (r_eql (k := .i64) (a := t.kind) (b := 2) rfl rfl).trans (by rw [he11]; try rfl)⟩) ?_
  refine qG (.bool ok) (yU ok (.bool e11)) (by cases ok <;> first | exact gA | exact gB | exact .inl ⟨rfl, r_move (v := (.bool e11)) rfl⟩) ?_
  refine qG (yU ok (.bool e11)) (yU ok (nU e11 (P6 b1 1))) (by cases ok <;> cases e11 <;> first | exact gA | exact gB | exact .inl ⟨rfl, r_fieldAddr (b := b1) (o := 0) (o' := 1) rfl Tryz.underlying25 rfl siz22 rfl⟩) ?_
  refine qG (yU ok (.bool e11)) (yU ok (nU e11 (.slice sa t.set.length sc))) (by cases ok <;> cases e11 <;> first | exact gA | exact gB | exact .inl ⟨rfl, r_load (v := (.slice sa t.set.length sc)) rfl flat22 (B1.cell rfl)⟩) ?_
  refine qG (yU ok (.bool e11)) (yU ok (nU e11 (I6 (t.set.length : Int)))) (by cases ok <;> cases e11 <;> first | exact gA | exact gB | exact .inl ⟨rfl, r_lenSlice (ad := sa) (n := t.set.length) (cap := sc) Tryz.underlying22 rfl⟩) ?_
  obtain ⟨e12, he12⟩ : ∃ e, (decide ((((t.set.length : Nat) : Int) : Int) = 0)) = e := ⟨_, rfl⟩
  refine qG (yU ok (.bool e11)) (yU ok (nU e11 (.bool e12))) (by cases ok <;> cases e11 <;> first | exact gA | exact gB | exact .inl ⟨rfl, (r_eql (k := .i64) (a := (t.set.length : Int)) (b := 0) rfl rfl).trans (by rw [he12]; try rfl)⟩) ?_
  obtain ⟨e13, he13⟩ : ∃ e, (e11 || e12) = e := ⟨_, rfl⟩
  refine qG (.bool ok) (yU ok (.bool e13)) (by cases ok <;> first | exact gA | exact gB | exact .inl ⟨rfl, r_pick (b := e11) (v := .bool e13) rfl (by rw [← he13]; cases e11 <;> rfl)⟩) ?_
  obtain ⟨e14, he14⟩ : ∃ e, (ok && e13) = e := ⟨_, rfl⟩
  refine qV (r_pick (b := ok) (v := .bool e14) rfl (by rw [← he14]; cases ok <;> rfl)) ?_
  refine qM (.bool e14) rfl ?_
  refine qG (.bool e14) (yU e14 (P6 b1 0)) (by cases e14 <;> first | exact gA | exact gB | exact .inl ⟨rfl, r_fieldAddr (b := b1) (o := 0) (o' := 0) rfl Tryz.underlying25 rfl siz3 rfl⟩) ?_
  refine qG (.bool e14) (yU e14 (I6 t.kind)) (by cases e14 <;> first | exact gA | exact gB | exact .inl ⟨rfl, r_load (v := (I6 t.kind)) rfl flat3 (B1.cell rfl)⟩) ?_
  obtain ⟨e15, he15⟩ : ∃ e, (decide ((t.kind : Int) = 6)) = e := ⟨_, rfl⟩
  refine qG (.bool e14) (yU e14 (.bool e15)) (by cases e14 <;> first | exact gA | exact gB | exact .inl ⟨rfl, (r_eql (k := .i64) (a := t.kind) (b := 6) rfl rfl).trans (by rw [he15]; try rfl)⟩) ?_
  refine qG (.bool e14) (yU e14 (.bool e15)) (by cases e14 <;> first | exact gA | exact gB | exact .inl ⟨rfl, r_move (v := (.bool e15)) rfl⟩) ?_
  refine qG (yU e14 (.bool e15)) (yU e14 (nU e15 (P6 b1 0))) (by cases e14 <;> cases e15 <;> first | exact gA | exact gB | exact .inl ⟨rfl, r_fieldAddr (b := b1) (o := 0) (o' := 0) rfl Tryz.underlying25 rfl siz3 rfl⟩) ?_
  refine qG (yU e14 (.bool e15)) (yU e14 (nU e15 (I6 t.kind))) (by cases e14 <;> cases e15 <;> first | exact gA | exact gB | exact .inl ⟨rfl, r_load (v := (I6 t.kind)) rfl flat3 (B1.cell rfl)⟩) ?_
  obtain ⟨e16, he16⟩ : ∃ e, (decide ((t.kind : Int) = 9)) = e := ⟨_, rfl⟩
  refine qG (yU e14 (.bool e15)) (yU e14 (nU e15 (.bool e16))) (by cases e14 <;> cases e15 <;> first | exact gA | exact gB | exact .inl ⟨rfl, (r_eql (k := .i64) (a := t.kind) (b := 9) rfl rfl).trans (by rw [he16]; try rfl)⟩) ?_
  obtain ⟨e17, he17⟩ : ∃ e, (e15 || e16) = e := ⟨_, rfl⟩
  refine qG (.bool e14) (yU e14 (.bool e17)) (by cases e14 <;> first | exact gA | exact gB | exact .inl ⟨rfl, r_pick (b := e15) (v := .bool e17) rfl (by rw [← he17]; cases e15 <;> rfl)⟩) ?_
  refine qG (.bool e14) (yU e14 (.bool e17)) (by cases e14 <;> first | exact gA | exact gB | exact .inl ⟨rfl, r_move (v := (.bool e17)) rfl⟩) ?_
  refine qG (yU e14 (.bool e17)) (yU e14 (nU e17 (P6 b1 3))) (by cases e14 <;> cases e17 <;> first | exact gA | exact gB | exact .inl ⟨rfl, r_fieldAddr (b := b1) (o := 0) (o' := 3) rfl Tryz.underlying25 rfl siz3 rfl⟩) ?_
  refine qG (yU e14 (.bool e17)) (yU e14 (nU e17 (I6 t.mn))) (by cases e14 <;> cases e17 <;> first | exact gA | exact gB | exact .inl ⟨rfl, r_load (v := (I6 t.mn)) rfl flat3 (B1.cell rfl)⟩) ?_
  obtain ⟨e18, he18⟩ : ∃ e, (decide ((t.mn : Int) = 0)) = e := ⟨_, rfl⟩
  refine qG (yU e14 (.bool e17)) (yU e14 (nU e17 (.bool e18))) (by cases e14 <;> cases e17 <;> first | exact gA | exact gB | exact .inl ⟨rfl, (r_eql (k := .i64) (a := t.mn) (b := 0) rfl rfl).trans (by rw [he18]; try rfl)⟩) ?_
  obtain ⟨e19, he19⟩ : ∃ e, (e17 || e18) = e := ⟨_, rfl⟩
  refine qG (.bool e14) (yU e14 (.bool e19)) (by cases e14 <;> first | exact gA | exact gB | exact .inl ⟨rfl, r_pick (b := e17) (v := .bool e19) rfl (by rw [← he19]; cases e17 <;> rfl)⟩) ?_
  obtain ⟨e20, he20⟩ : ∃ e, (e14 && e19) = e := ⟨_, rfl⟩
  refine qV (r_pick (b := e14) (v := .bool e20) rfl (by rw [← he20]; cases e14 <;> rfl)) ?_
  refine qM (.bool e20) rfl ?_
  refine qG (.bool e20) (yU e20 (P6 b1 0)) (by cases e20 <;> first | exact gA | exact gB | exact .inl ⟨rfl, r_fieldAddr (b := b1) (o := 0) (o' := 0) rfl Tryz.underlying25 rfl siz3 rfl⟩) ?_
  refine qG (.bool e20) (yU e20 (I6 t.kind)) (by cases e20 <;> first | exact gA | exact gB | exact .inl ⟨rfl, r_load (v := (I6 t.kind)) rfl flat3 (B1.cell rfl)⟩) ?_
  obtain ⟨e21, he21⟩ : ∃ e, (decide ((t.kind : Int) = 6)) = e := ⟨_, rfl⟩
  refine qG (.bool e20) (yU e20 (.bool e21)) (by cases e20 <;> first | exact gA | exact gB | exact .inl ⟨rfl, (r_eql (k := .i64) (a := t.kind) (b := 6) rfl rfl).trans (by rw [he21]; try rfl)⟩) ?_
  refine qG (.bool e20) (yU e20 (.bool e21)) (by cases e20 <;> first | exact gA | exact gB | exact .inl ⟨rfl, r_move (v := (.bool e21)) rfl⟩) ?_
  refine qG (yU e20 (.bool e21)) (yU e20 (nU e21 (P6 b1 4))) (by cases e20 <;> cases e21 <;> first | exact gA | exact gB | exact .inl ⟨rfl, r_fieldAddr (b := b1) (o := 0) (o' := 4) rfl Tryz.underlying25 rfl siz3 rfl⟩) ?_
  refine qG (yU e20 (.bool e21)) (yU e20 (nU e21 (I6 t.mx))) (by cases e20 <;> cases e21 <;> first | exact gA | exact gB | exact .inl ⟨rfl, r_load (v := (I6 t.mx)) rfl flat3 (B1.cell rfl)⟩) ?_
  obtain ⟨e22, he22⟩ : ∃ e, (decide ((t.mx : Int) = 0)) = e := ⟨_, rfl⟩
  refine qG (yU e20 (.bool e21)) (yU e20 (nU e21 (.bool e22))) (by cases e20 <;> cases e21 <;> first | exact gA | exact gB | exact .inl ⟨rfl, (r_eql (k := .i64) (a := t.mx) (b := 0) rfl rfl).trans (by rw [he22]; try rfl)⟩) ?_
  obtain ⟨e23, he23⟩ : ∃ e, (e21 || e22) = e := ⟨_, rfl⟩
  refine qG (.bool e20) (yU e20 (.bool e23)) (by cases e20 <;> first | exact gA | exact gB | exact .inl ⟨rfl, r_pick (b := e21) (v := .bool e23) rfl (by rw [← he23]; cases e21 <;> rfl)⟩) ?_
  obtain ⟨e24, he24⟩ : ∃ e, (e20 && e23) = e := ⟨_, rfl⟩
  refine qV (r_pick (b := e20) (v := .bool e24) rfl (by rw [← he24]; cases e20 <;> rfl)) ?_
  refine qM (.bool e24) rfl ?_
  refine qG (.bool e24) (yU e24 (P6 b1 0)) (by cases e24 <;> first | exact gA | exact gB | exact .inl ⟨rfl, r_fieldAddr (b := b1) (o := 0) (o' := 0) rfl Tryz.underlying25 rfl siz3 rfl⟩) ?_
  refine qG (.bool e24) (yU e24 (I6 t.kind)) (by cases e24 <;> first | exact gA | exact gB | exact .inl ⟨rfl, r_load (v := (I6 t.kind)) rfl flat3 (B1.cell rfl)⟩) ?_
  obtain ⟨e25, he25⟩ : ∃ e, (decide ((t.kind : Int) = 10)) = e := ⟨_, rfl⟩
  refine qG (.bool e24) (yU e24 (.bool e25)) (by cases e24 <;> first | exact gA | exact gB | exact .inl ⟨rfl, (r_eql (k := .i64) (a := t.kind) (b := 10) rfl rfl).trans (by rw [he25]; try rfl)⟩) ?_
  refine qG (.bool e24) (yU e24 (.bool e25)) (by cases e24 <;> first | exact gA | exact gB | exact .inl ⟨rfl, r_move (v := (.bool e25)) rfl⟩) ?_
  refine qG (yU e24 (.bool e25)) (yU e24 (nU e25 (P6 b1 5))) (by cases e24 <;> cases e25 <;> first | exact gA | exact gB | exact .inl ⟨rfl, r_fieldAddr (b := b1) (o := 0) (o' := 5) rfl Tryz.underlying25 rfl siz4 rfl⟩) ?_
  refine qG (yU e24 (.bool e25)) (yU e24 (nU e25 (.bool t.neg))) (by cases e24 <;> cases e25 <;> first | exact gA | exact gB | exact .inl ⟨rfl, r_load (v := (.bool t.neg)) rfl flat4 (B1.cell rfl)⟩) ?_
  obtain ⟨e26, he26⟩ : ∃ e, (!t.neg) = e := ⟨_, rfl⟩
  refine qG (yU e24 (.bool e25)) (yU e24 (nU e25 (.bool e26))) (by cases e24 <;> cases e25 <;> first | exact gA | exact gB | exact .inl ⟨rfl, (r_not (b := t.neg) rfl).trans (by rw [he26]; try rfl)⟩) ?_
  obtain ⟨e27, he27⟩ : ∃ e, (e25 || e26) = e := ⟨_, rfl⟩
  refine qG (.bool e24) (yU e24 (.bool e27)) (by cases e24 <;> first | exact gA | exact gB | exact .inl ⟨rfl, r_pick (b := e25) (v := .bool e27) rfl (by rw [← he27]; cases e25 <;> rfl)⟩) ?_
  obtain ⟨e28, he28⟩ : ∃ e, (e24 && e27) = e := ⟨_, rfl⟩
  refine qV (r_pick (b := e24) (v := .bool e28) rfl (by rw [← he28]; cases e24 <;> rfl)) ?_
  refine qA (.bool e28) rfl ?_
  refine WpL_nil ?_
  subst he28
  subst he27
  subst he26
  subst he25
  subst he24
  subst he23
  subst he22
  subst he21
  subst he20
  subst he19
  subst he18
  subst he17
  subst he16
  subst he15
  subst he14
  subst he13
  subst he12
  subst he11
  refine Wp_ret ?_
  refine fin_tmp Tryz.results89 (v := (.bool ((((ok && ((decide ((t.kind : Int) = 2)) || (decide ((((t.set.length : Nat) : Int) : Int) = 0)))) && (((decide ((t.kind : Int) = 6)) || (decide ((t.kind : Int) = 9))) || (decide ((t.mn : Int) = 0)))) && ((decide ((t.kind : Int) = 6)) || (decide ((t.mx : Int) = 0)))) && ((decide ((t.kind : Int) = 10)) || (!t.neg))))) rfl ?_
  subst hok
  exact ⟨rfl, E⟩
def checkL : Option Int → List (Int × Int) → Int
  | _, [] => 0
  | p, s :: r => if validB s = false then 1 else if (match p with | some h => decide (s.1 < h + 2) | none => false) = true then 3 else checkL (some s.2) r
theorem checkL_cons (p : Option Int) (s : Int × Int) (r : List (Int × Int)) : checkL p (s :: r) = if validB s = false then 1 else if (match p with | some h => decide (s.1 < h + 2) | none => false) = true then 3 else checkL (some s.2) r := rfl
def checkE (l : List (Int × Int)) : Int := if 16 < l.length then 2 else checkL none l
def prevHi (l : List (Int × Int)) (k : Nat) : Option Int := if k = 0 then none else (l[k - 1]?).map (·.2)
theorem nextHi {l : List (Int × Int)} {k : Nat} {s : Int × Int} (h : l[k]? = some s) : prevHi l (k + 1) = some s.2 := by
 unfold prevHi; simp [h]
theorem notHi {l : List (Int × Int)} {k : Nat} {s : Int × Int} {p : Int} (hpq : 0 < k → ∃ q, l[k - 1]? = some q ∧ q.2 = p ∧ prevHi l k = some p)
  (hf : (decide ((0 : Int) < ((k : Nat) : Int)) && decide (s.1 < p + 2)) = false) : ¬ (match prevHi l k with | some h => decide (s.1 < h + 2) | none => false) = true := by
 by_cases h0 : 0 < k
 ·obtain ⟨q, _, _, h3⟩ := hpq h0
  rw [h3]
  simp at hf ⊢
  exact hf h0
 ·have : prevHi l k = none := by unfold prevHi; rw [if_pos (by omega)]
  rw [this]; simp
set_option maxHeartbeats 400000 in
theorem rcheck_c (w0 : World) (v : Value) (l : List (Int × Int)) (hs : SpansAt w0 v l) :
  Ret Tryz.prog 90 #[v] w0 fun v w => v = .int .i64 (checkE l) ∧ Ext w0 w := by
 obtain ⟨a, c, rfl⟩ := SlAt.form hs
 have hlen : l.length ≤ 9223372036854775807 := by simpa using SlAt.le hs
 simp only [List.length_map] at hs ⊢
 refine Ret_of Tryz.func90 rfl Tryz.ntmps90 (Nat.le_of_ble_eq_true rfl) ?_
 have E : Chg none1 w0 w0 := Chg.refl _ _
 refine Wp_seq_region ?_
 refine qA (I6 0) rfl ?_
 refine WpL_nil (Wp_seq (Wp_seq_region ?_))
 refine qM (.slice a l.length c) rfl ?_
 refine qV (r_lenSlice (ad := a) (n := l.length) (cap := c) Tryz.underlying22 rfl) ?_
 refine qV (r_gtr (k := .i64) (a := (l.length : Int)) (b := 16) rfl rfl) ?_
 refine WpL_nil ?_
 refine Wp_cond (b := decide ((16 : Int) < (l.length : Int))) rfl (fun h16 => ?_) (fun h16 => ?_)
 ·have kh16 := h16
  replace h16 := of_decide_eq_true h16
  refine Wp_seq_region ?_
  refine qA (I6 2) rfl ?_
  refine WpL_nil (Wp_ret (thn_ret ?_))
  refine fin_tmp Tryz.results90 (v := (.int .i64 2)) rfl ?_
  exact ⟨by unfold checkE; rw [if_pos (by omega)], E⟩
 ·have kh16 := h16
  replace h16 := of_decide_eq_false h16
  have hE0 : checkE l = checkL none l := by unfold checkE; rw [if_neg (by omega)]
  rw [hE0]
  refine Wp_skip (thn_normal (Wp_seq (Wp_seq_region ?_)))
  refine qM (.slice a l.length c) rfl ?_
  refine qV (r_lenSlice (ad := a) (n := l.length) (cap := c) Tryz.underlying22 rfl) ?_
  refine qM (I6 0) rfl ?_
  refine WpL_nil (Wp_block ?_)
  refine Wp_loop (fun nn_ σ W2 => ∃ (k : Nat), (∃ jj_, σ = upds jj_ [(0, (.slice a l.length c)), (8, (.slice a l.length c)), (9, (I6 (l.length : Int))), (10, (I6 (k : Int)))]) ∧ Chg none1 w0 W2 ∧ (k ≤ l.length) ∧ (checkL none l = checkL (prevHi l k) (l.drop k)) ∧ (∀ h, prevHi l k = some h → 0 ≤ h ∧ h ≤ 1114111) ∧ nn_ = l.length - k) (n := l.length - 0) ?_ ?_
  ·exact ⟨0, Fits.out ⟨rfl, rfl, rfl, rfl, trivial⟩, E, Nat.zero_le _, rfl, (by intro h hh; simp [prevHi] at hh), rfl⟩
  ·clear E
   rintro _ _ W2 ⟨k, ⟨j2, rfl⟩, E, hk, hrel, hpv, rfl⟩
   refine Wp_seq_region ?_
   refine qV (r_lss (k := .i64) (a := (k : Int)) (b := (l.length : Int)) rfl rfl) ?_
   refine WpL_nil (Wp_seq ?_)
   refine Wp_cond (b := decide (((k : Int) : Int) < (l.length : Int))) rfl (fun hlt => ?_) (fun hlt => ?_)
   ·have khlt := hlt
    replace hlt := of_decide_eq_true hlt
    have hlt' : k < l.length := by omega
    obtain ⟨s, hsk⟩ : ∃ s, l[k]? = some s := ⟨_, List.getElem?_eq_getElem hlt'⟩
    obtain ⟨b, o, rfl, hcells⟩ := spans_cells hs (by omega)
    have hdr : l.drop k = s :: l.drop (k + 1) := by rw [List.drop_eq_getElem_cons hlt']; rw [List.getElem?_eq_getElem hlt'] at hsk; cases hsk; rfl
    rw [hdr] at hrel
    refine Wp_skip (thn_normal (Wp_seq (Wp_block (Wp_seq_region ?_))))
    refine qM (I6 (k : Int)) rfl ?_
    refine qV (r_indexSlice (b := b) (o := o) (len := l.length) (cap := c) (i := k) (o' := o + k * 2) rfl rfl rfl Tryz.underlying22 siz62 (by omega) (by omega)) ?_
    refine qV (r_loadAgg (vs := [(I6 s.1), (I6 s.2)]) rfl agg62 siz62 rfl ((hcells k s hsk).ext E)) ?_
    refine s_alloc (c := #[(I6 0), (I6 0)]) (by decide) zer62 rfl ?_
    intro b4 w4 N4
    have F4 := N4.ge E
    replace E := E.ext N4.ext
    have B4 := N4.blk
    refine qA (I6 (k : Int)) rfl ?_
    refine s_storeAgg (b := b4) (o := 0) (c' := #[(I6 s.1), (I6 s.2)]) rfl rfl (by simp [Value.oneCell']) siz62 rfl B4 (by first | (simp; done) | exact Nat.le_of_ble_eq_true rfl) rfl ?_
    intro w5 S5
    replace E := S5.step E (by first | exact Or.inl (by omega) | assumption | exact Or.inr rfl | exact Or.inr (by assumption) | exact Or.inr (by simp) | exact Or.inr (by omega) | exact Or.inr (by dsimp only; omega))
    replace B4 := S5.blk
    refine WpL_nil (Wp_seq (Wp_seq_region ?_))
    refine qV (r_loadAgg (vs := [(I6 s.1), (I6 s.2)]) rfl agg62 siz62 rfl (B4.cells rfl)) ?_
    refine WpL_enter rfl rfl (by decide) (r_callF (vs := [(.agg #[(I6 s.1), (I6 s.2)])]) Tryz.func110 nm110 bd110 rfl) (valid_c s _) ?_
    rintro _ w9 ⟨rfl, X9⟩
    replace B4 := X9.keep B4
    replace E := E.ext X9
    refine qV (r_not (b := validB s) rfl) ?_
    refine WpL_nil ?_
    refine Wp_cond (b := !(validB s)) rfl (fun hv => ?_) (fun hv => ?_)
    ·have khv := hv
     replace hv := by simpa using hv
     refine Wp_seq_region ?_
     refine qA (I6 1) rfl ?_
     refine WpL_nil (Wp_ret (thn_ret (inB_ret (thn_ret (thn_ret (inB_ret (thn_ret ?_)))))))
     refine fin_tmp Tryz.results90 (v := (.int .i64 1)) rfl ?_
     exact ⟨by rw [hrel]; rw [checkL_cons, if_pos hv], E⟩
    ·have khv := hv
     replace hv := by simpa using hv
     have hvt : validB s = true := by simpa using hv
     have hvb : 0 ≤ s.2 ∧ s.2 ≤ 1114111 := by unfold validB at hvt; simp at hvt; omega
     obtain ⟨p, hpe⟩ : ∃ p, (prevHi l k).getD 0 = p := ⟨_, rfl⟩
     have hpq : 0 < k → ∃ q, l[k - 1]? = some q ∧ q.2 = p ∧ prevHi l k = some p := by
      intro h0
      have h1 : k - 1 < l.length := by omega
      have h2 : prevHi l k = some (l[k - 1]).2 := by unfold prevHi; rw [if_neg (by omega), List.getElem?_eq_getElem h1]; rfl
      rw [h2] at hpe; simp at hpe
      exact ⟨_, List.getElem?_eq_getElem h1, hpe, by rw [h2, hpe]⟩
     have hpb : 0 ≤ p ∧ p ≤ 1114111 := by
      by_cases h0 : 0 < k
      ·obtain ⟨q, _, _, h3⟩ := hpq h0; exact hpv p h3
      ·have : prevHi l k = none := by unfold prevHi; rw [if_pos (by omega)]
       rw [this] at hpe; simp at hpe; omega
     refine Wp_skip (thn_normal ?_)
     refine Wp_seq_draw 13 mixed (by kernel_rfl) ?_
     intro w7 X7 _
     replace B4 := X7.keep B4
     replace E := E.ext X7
     refine qT (r_move (v := (I6 (k : Int))) rfl) ?_
     obtain ⟨e8, he8⟩ : ∃ e, (decide ((0 : Int) < ((k : Nat) : Int))) = e := ⟨_, rfl⟩
     refine qT ((r_gtr (k := .i64) (a := (k : Int)) (b := 0) rfl rfl).trans (by rw [he8]; try rfl)) ?_
     refine qT (r_move (v := (.bool e8)) rfl) ?_
     refine WpT_guard_any (oj := _) (gv := (.bool e8)) (u := (yU e8 (P6 b4 0))) rfl rfl (by decide) (by decide) rfl (by cases e8 <;> first | exact gA | exact gB | exact .inl ⟨rfl, r_fieldAddr (b := b4) (o := 0) (o' := 0) rfl Tryz.underlying62 rfl siz3 rfl⟩) ?_
     refine WpT_guard_any (oj := _) (gv := (.bool e8)) (u := (yU e8 (I6 s.1))) rfl rfl (by decide) (by decide) rfl (by cases e8 <;> first | exact gA | exact gB | exact .inl ⟨rfl, r_load (v := (I6 s.1)) rfl flat3 (B4.cell rfl)⟩) ?_
     refine WpT_guard_any (oj := _) (gv := (.bool e8)) (u := (yU e8 (.slice (some ⟨b, o, none⟩) l.length c))) rfl rfl (by decide) (by decide) rfl (by cases e8 <;> first | exact gA | exact gB | exact .inl ⟨rfl, r_move (v := (.slice (some ⟨b, o, none⟩) l.length c)) rfl⟩) ?_
     refine WpT_guard_any (oj := _) (gv := (.bool e8)) (u := (yU e8 (I6 (k : Int)))) rfl rfl (by decide) (by decide) rfl (by cases e8 <;> first | exact gA | exact gB | exact .inl ⟨rfl, r_move (v := (I6 (k : Int))) rfl⟩) ?_
     refine WpT_guard_any (oj := _) (gv := (.bool e8)) (u := (yU e8 (I6 ((k : Int) - 1)))) rfl rfl (by decide) (by decide) rfl (by cases e8 <;> first | exact gA | exact gB | exact .inl ⟨rfl, r_sub (k := .i64) (a := (k : Int)) (b := 1) (c := (k : Int) - 1) rfl rfl (wI64 (by have := of_decide_eq_true he8; omega))⟩) ?_
     refine WpT_guard_any (oj := _) (gv := (.bool e8)) (u := (yU e8 (.pointer (some ⟨b, o + (k - 1) * 2, none⟩)))) rfl rfl (by decide) (by decide) rfl (by cases e8 <;> first | exact gA | exact gB | exact .inl ⟨rfl, r_indexSlice (b := b) (o := o) (len := l.length) (cap := c) (i := k - 1) (o' := o + (k - 1) * 2) rfl rfl (by have := of_decide_eq_true he8; omega) Tryz.underlying22 siz62 (by have := of_decide_eq_true he8; omega) (by omega)⟩) ?_
     refine WpT_guard_any (oj := _) (gv := (.bool e8)) (u := (yU e8 (.pointer (some ⟨b, o + (k - 1) * 2 + 1, none⟩)))) rfl rfl (by decide) (by decide) rfl (by cases e8 <;> first | exact gA | exact gB | exact .inl ⟨rfl, r_fieldAddr (b := b) (o := o + (k - 1) * 2) (o' := o + (k - 1) * 2 + 1) rfl Tryz.underlying62 rfl siz3 rfl⟩) ?_
     refine WpT_guard_any (oj := _) (gv := (.bool e8)) (u := (yU e8 (I6 p))) rfl rfl (by decide) (by decide) rfl (by cases e8 <;> first | exact gA | exact gB | exact .inl ⟨rfl, r_load (v := (I6 p)) rfl flat3 ((by have := of_decide_eq_true he8;  obtain ⟨q, hq, rfl, _⟩ := hpq (by omega); exact ((hcells (k - 1) q hq).ext E).at1))⟩) ?_
     refine WpT_guard_any (oj := _) (gv := (.bool e8)) (u := (yU e8 (I6 (p + 2)))) rfl rfl (by decide) (by decide) rfl (by cases e8 <;> first | exact gA | exact gB | exact .inl ⟨rfl, r_add (k := .i64) (a := p) (b := 2) (c := p + 2) rfl rfl (wI64 (by have := of_decide_eq_true he8; omega))⟩) ?_
     obtain ⟨e9, he9⟩ : ∃ e, (decide ((s.1 : Int) < p + 2)) = e := ⟨_, rfl⟩
     refine WpT_guard_any (oj := _) (gv := (.bool e8)) (u := (yU e8 (.bool e9))) rfl rfl (by decide) (by decide) rfl (by cases e8 <;> first | exact gA | exact gB | exact .inl ⟨rfl, (r_lss (k := .i64) (a := s.1) (b := p + 2) rfl rfl).trans (by rw [he9]; try rfl)⟩) ?_
     refine WpT_zero ?_
     obtain ⟨e10, he10⟩ : ∃ e, (e8 && e9) = e := ⟨_, rfl⟩
     refine qV (r_pick (b := e8) (v := .bool e10) rfl (by rw [← he10]; cases e8 <;> rfl)) ?_
     refine WpL_nil ?_
     subst he10
     subst he9
     subst he8
     refine Wp_cond (b := ((decide ((0 : Int) < (k : Int))) && (decide ((s.1 : Int) < p + 2)))) rfl (fun hf => ?_) (fun hf => ?_)
     ·have khf := hf
      have hf2 : 0 < k ∧ s.1 < p + 2 := by simpa using hf
      obtain ⟨q, _, _, h3⟩ := hpq hf2.1
      refine Wp_seq_region ?_
      refine qA (I6 3) rfl ?_
      refine WpL_nil (Wp_ret (inB_ret (thn_ret (thn_ret (inB_ret (thn_ret ?_))))))
      refine fin_tmp Tryz.results90 (v := (.int .i64 3)) rfl ?_
      exact ⟨by rw [hrel]; rw [checkL_cons, if_neg (by simp [hvt]), h3, if_pos (by simp [hf2.2])], E⟩
     ·have khf := hf
      refine Wp_skip (inB_normal (thn_normal (Wp_region ?_)))
      refine qV (r_add (k := .i64) (a := (k : Int)) (b := 1) (c := (k : Int) + 1) rfl rfl (wI64 (by omega))) ?_
      refine qM (I6 ((k : Int) + 1)) rfl ?_
      refine WpL_nil (thn_normal ?_)
      exact ⟨l.length - (k + 1), by omega, k + 1, Fits.out ⟨rfl, rfl, rfl, rfl, trivial⟩, E, (by omega), (by rw [hrel]; rw [checkL_cons, if_neg (by simp [hvt]), if_neg ?_, nextHi hsk]; exact notHi hpq hf), (by intro h hh; rw [nextHi hsk] at hh; cases hh; exact hvb), rfl⟩
   ·have khlt := hlt
    replace hlt := of_decide_eq_false hlt
    have hkk : k = l.length := by omega
    rw [hkk, List.drop_length] at hrel
    refine Wp_exit (thn_exit (thn_exit (inB_here (thn_normal (Wp_seq_region ?_)))))
    refine qA (I6 0) rfl ?_
    refine WpL_nil (Wp_ret ?_)
    refine fin_tmp Tryz.results90 (v := (.int .i64 0)) rfl ?_
    exact ⟨by rw [hrel]; rfl, E⟩
end Go.Proofs
namespace Go.Proofs
open Go Go.Eng
set_option linter.unusedSectionVars false
variable [Drw]
set_option maxRecDepth 100000
def nodeE (t : Re) : Int := if t.kind < 0 ∨ 10 < t.kind then 1 else if formB t = false then 3 else if t.kind = 2 then (if checkE t.set ≠ 0 then checkE t.set else if (t.set.length : Int) = 0 then 3 else 0)
 else if t.kind = 6 then (if t.mn < 0 ∨ t.mx < t.mn ∨ 8 < t.mx then 1 else 0) else if t.kind = 9 then (if t.mn < 0 ∨ 9 < t.mn then 1 else 0) else 0
set_option maxHeartbeats 800000 in
theorem node_c (wb w0 : World) (t : Re) (vs : List Value) (ht : ReAt wb t vs) (hE : Ext wb w0) :
  Ret Tryz.prog 68 #[.agg vs.toArray] w0 fun v w => v = .int .i64 (nodeE t) ∧ Ext w0 w := by
 have ht0 := ht
 obtain ⟨sa, sc, aa, ac, rfl, hset, hlen, hargs⟩ := ht.form
 refine Ret_of Tryz.func68 rfl Tryz.ntmps68 (Nat.le_of_ble_eq_true rfl) ?_
 have E : Chg none1 w0 w0 := Chg.refl _ _
 refine Wp_seq_region ?_
 refine s_box (v := (.agg (R6 t sa sc aa ac))) (c := (R6 t sa sc aa ac)) (by decide) rfl rfl ?_
 intro b1 w1 N1
 have F1 := N1.ge E
 replace E := E.ext N1.ext
 have B1 := N1.blk
 refine qA (I6 0) rfl ?_
 refine WpL_nil (Wp_seq (Wp_seq_region ?_))
 refine qF b1 0 0 rfl Tryz.underlying25 rfl siz3 rfl ?_
 refine qV (r_load (v := (I6 t.kind)) rfl flat3 (B1.cell rfl)) ?_
 obtain ⟨e2, he2⟩ : ∃ e, (decide ((t.kind : Int) < 0)) = e := ⟨_, rfl⟩
 refine qV ((r_lss (k := .i64) (a := t.kind) (b := 0) rfl rfl).trans (by rw [he2]; try rfl)) ?_
 refine qM (.bool e2) rfl ?_
 refine qG (.bool e2) (nU e2 (P6 b1 0)) (by cases e2 <;> first | exact gA | exact gB | exact .inl ⟨rfl, r_fieldAddr (b := b1) (o := 0) (o' := 0) rfl Tryz.underlying25 rfl siz3 rfl⟩) ?_
 refine qG (.bool e2) (nU e2 (I6 t.kind)) (by cases e2 <;> first | exact gA | exact gB | exact .inl ⟨rfl, r_load (v := (I6 t.kind)) rfl flat3 (B1.cell rfl)⟩) ?_
 obtain ⟨e3, he3⟩ : ∃ e, (decide ((10 : Int) < t.kind)) = e := ⟨_, rfl⟩
 refine qG (.bool e2) (nU e2 (.bool e3)) (by cases e2 <;> first | exact gA | exact gB | exact .inl ⟨rfl, (r_gtr (k := .i64) (a := t.kind) (b := 10) rfl rfl).trans (by rw [he3]; try rfl)⟩) ?_
 obtain ⟨e4, he4⟩ : ∃ e, (e2 || e3) = e := ⟨_, rfl⟩
 refine qV (r_pick (b := e2) (v := .bool e4) rfl (by rw [← he4]; cases e2 <;> rfl)) ?_
 refine WpL_nil ?_
 subst he4
 subst he3
 subst he2
 refine Wp_cond (b := ((decide ((t.kind : Int) < 0)) || (decide ((10 : Int) < t.kind)))) rfl (fun hk => ?_) (fun hk => ?_)
 ·have khk := hk
  simp at hk
  refine Wp_seq_region ?_
  refine qA (I6 1) rfl ?_
  refine WpL_nil (Wp_ret (thn_ret ?_))
  refine fin_tmp Tryz.results68 (v := (.int .i64 1)) rfl ?_
  exact ⟨int_eq (by unfold nodeE; rw [if_pos (by omega)]), E⟩
 ·have khk := hk
  simp at hk
  refine Wp_skip (thn_normal (Wp_seq (Wp_seq_region ?_)))
  refine qV (r_loadAgg (vs := [(I6 t.kind), (.slice sa t.set.length sc), (.slice aa t.args.length ac), (I6 t.mn), (I6 t.mx), (.bool t.neg)]) rfl agg25 siz25 rfl (B1.cells rfl)) ?_
  refine WpL_enter rfl rfl (by decide) (r_callF (vs := [(.agg (R6 t sa sc aa ac))]) Tryz.func89 nm89 bd89 rfl) (form_c wb _ t _ ht0) ?_
  rintro _ w9 ⟨rfl, X9⟩
  replace B1 := X9.keep B1
  replace E := E.ext X9
  refine qV (r_not (b := formB t) rfl) ?_
  refine WpL_nil ?_
  refine Wp_cond (b := !(formB t)) rfl (fun hf => ?_) (fun hf => ?_)
  ·have khf := hf
   replace hf := by simpa using hf
   refine Wp_seq_region ?_
   refine qA (I6 3) rfl ?_
   refine WpL_nil (Wp_ret (thn_ret ?_))
   refine fin_tmp Tryz.results68 (v := (.int .i64 3)) rfl ?_
   exact ⟨int_eq (by unfold nodeE; rw [if_neg (by omega), if_pos hf]), E⟩
  ·have khf := hf
   replace hf := by simpa using hf
   have hN : nodeE t = if t.kind = 2 then (if checkE t.set ≠ 0 then checkE t.set else if (t.set.length : Int) = 0 then 3 else 0) else if t.kind = 6 then (if t.mn < 0 ∨ t.mx < t.mn ∨ 8 < t.mx then 1 else 0) else if t.kind = 9 then (if t.mn < 0 ∨ 9 < t.mn then 1 else 0) else 0 := by unfold nodeE; rw [if_neg (by omega), if_neg (by simp [hf])]
   rw [hN]
   refine Wp_skip (thn_normal (Wp_seq (Wp_seq_region ?_)))
   refine qF b1 0 0 rfl Tryz.underlying25 rfl siz3 rfl ?_
   refine qV (r_load (v := (I6 t.kind)) rfl flat3 (B1.cell rfl)) ?_
   refine WpL_nil (Wp_block (Wp_seq_region ?_))
   refine qV (r_eql (k := .i64) (a := t.kind) (b := 2) rfl rfl) ?_
   refine qA (.bool (decide ((t.kind : Int) = 2))) rfl ?_
   refine WpL_nil ?_
   refine Wp_cond (b := decide ((t.kind : Int) = 2)) rfl (fun h2 => ?_) (fun h2 => ?_)
   ·have kh2 := h2
    replace h2 := of_decide_eq_true h2
    rw [if_pos h2]
    refine Wp_seq (Wp_seq_region ?_)
    refine qF b1 0 1 rfl Tryz.underlying25 rfl siz22 rfl ?_
    refine qV (r_load (v := (.slice sa t.set.length sc)) rfl flat22 (B1.cell rfl)) ?_
    refine WpL_enter rfl rfl (by decide) (r_callF (vs := [(.slice sa t.set.length sc)]) Tryz.func90 nm90 bd90 rfl) (rcheck_c _ _ t.set ((hset.ext hE).ext E)) ?_
    rintro _ w10 ⟨rfl, X10⟩
    replace B1 := X10.keep B1
    replace E := E.ext X10
    refine qA (I6 (checkE t.set)) rfl ?_
    refine WpL_nil (Wp_seq_region ?_)
    refine qM (I6 (checkE t.set)) rfl ?_
    refine qV (r_neq (k := .i64) (a := checkE t.set) (b := 0) rfl rfl) ?_
    refine WpL_nil ?_
    refine Wp_cond (b := decide ((checkE t.set : Int) ≠ 0)) rfl (fun h3 => ?_) (fun h3 => ?_)
    ·have kh3 := h3
     replace h3 := of_decide_eq_true h3
     refine Wp_seq_region ?_
     refine qM (I6 (checkE t.set)) rfl ?_
     refine qA (I6 (checkE t.set)) rfl ?_
     refine WpL_nil (Wp_ret (thn_ret (inB_ret (thn_ret ?_))))
     refine fin_tmp Tryz.results68 (v := (.int .i64 (checkE t.set))) rfl ?_
     exact ⟨int_eq (by rw [if_pos h3]), E⟩
    ·have kh3 := h3
     replace h3 := of_decide_eq_false h3
     rw [if_neg h3]
     refine Wp_skip (thn_normal (Wp_seq_region ?_))
     refine qF b1 0 1 rfl Tryz.underlying25 rfl siz22 rfl ?_
     refine qV (r_load (v := (.slice sa t.set.length sc)) rfl flat22 (B1.cell rfl)) ?_
     refine qV (r_lenSlice (ad := sa) (n := t.set.length) (cap := sc) Tryz.underlying22 rfl) ?_
     refine qV (r_eql (k := .i64) (a := (t.set.length : Int)) (b := 0) rfl rfl) ?_
     refine WpL_nil ?_
     refine Wp_cond (b := decide (((t.set.length : Int) : Int) = 0)) rfl (fun h4 => ?_) (fun h4 => ?_)
     ·have kh4 := h4
      replace h4 := of_decide_eq_true h4
      refine Wp_seq_region ?_
      refine qA (I6 3) rfl ?_
      refine WpL_nil (Wp_ret (inB_ret (thn_ret ?_)))
      refine fin_tmp Tryz.results68 (v := (.int .i64 3)) rfl ?_
      exact ⟨int_eq (by rw [if_pos h4]), E⟩
     ·have kh4 := h4
      replace h4 := of_decide_eq_false h4
      refine Wp_skip (inB_normal (thn_normal (Wp_seq_region ?_)))
      refine qA (I6 0) rfl ?_
      refine WpL_nil (Wp_ret ?_)
      refine fin_tmp Tryz.results68 (v := (.int .i64 0)) rfl ?_
      exact ⟨int_eq (by rw [if_neg h4]), E⟩
   ·have kh2 := h2
    replace h2 := of_decide_eq_false h2
    rw [if_neg h2]
    refine Wp_seq_region ?_
    refine qV (r_eql (k := .i64) (a := t.kind) (b := 6) rfl rfl) ?_
    refine qA (.bool (decide ((t.kind : Int) = 6))) rfl ?_
    refine WpL_nil ?_
    refine Wp_cond (b := decide ((t.kind : Int) = 6)) rfl (fun h6 => ?_) (fun h6 => ?_)
    ·have kh6 := h6
     replace h6 := of_decide_eq_true h6
     rw [if_pos h6]
     refine Wp_seq_region ?_
     refine qF b1 0 3 rfl Tryz.underlying25 rfl siz3 rfl ?_
     refine qV (r_load (v := (I6 t.mn)) rfl flat3 (B1.cell rfl)) ?_
     obtain ⟨e11, he11⟩ : ∃ e, (decide ((t.mn : Int) < 0)) = e := ⟨_, rfl⟩
     refine qV ((r_lss (k := .i64) (a := t.mn) (b := 0) rfl rfl).trans (by rw [he11]; try rfl)) ?_
     refine qM (.bool e11) rfl ?_
     refine qG (.bool e11) (nU e11 (P6 b1 3)) (by cases e11 <;> first | exact gA | exact gB | exact .inl ⟨rfl, r_fieldAddr (b := b1) (o := 0) (o' := 3) rfl Tryz.underlying25 rfl siz3 rfl⟩) ?_
     refine qG (.bool e11) (nU e11 (I6 t.mn)) (by cases e11 <;> first | exact gA | exact gB | exact .inl ⟨rfl, r_load (v := (I6 t.mn)) rfl flat3 (B1.cell rfl)⟩) ?_
     refine qG (.bool e11) (nU e11 (P6 b1 4)) (by cases e11 <;> first | exact gA | exact gB | exact .inl ⟨rfl, r_fieldAddr (b := b1) (o := 0) (o' := 4) rfl Tryz.underlying25 rfl siz3 rfl⟩) ?_
     refine qG (.bool e11) (nU e11 (I6 t.mx)) (by cases e11 <;> first | exact gA | exact gB | exact .inl ⟨rfl, r_load (v := (I6 t.mx)) rfl flat3 (B1.cell rfl)⟩) ?_
     obtain ⟨e12, he12⟩ : ∃ e, (decide ((t.mx : Int) < t.mn)) = e := ⟨_, rfl⟩
     refine qG (.bool e11) (nU e11 (.bool e12)) (by cases e11 <;> first | exact gA | exact gB | exact .inl ⟨rfl, (r_gtr (k := .i64) (a := t.mn) (b := t.mx) rfl rfl).trans (by rw [he12]; try rfl)⟩) ?_
     obtain ⟨e13, he13⟩ : ∃ e, (e11 || e12) = e := ⟨_, rfl⟩
     refine qV (r_pick (b := e11) (v := .bool e13) rfl (by rw [← he13]; cases e11 <;> rfl)) ?_
     refine qM (.bool e13) rfl ?_
     refine qG (.bool e13) (nU e13 (P6 b1 4)) (by cases e13 <;> first | exact gA | exact gB | exact .inl ⟨rfl, r_fieldAddr (b := b1) (o := 0) (o' := 4) rfl Tryz.underlying25 rfl siz3 rfl⟩) ?_
     refine qG (.bool e13) (nU e13 (I6 t.mx)) (by cases e13 <;> first | exact gA | exact gB | exact .inl ⟨rfl, r_load (v := (I6 t.mx)) rfl flat3 (B1.cell rfl)⟩) ?_
     obtain ⟨e14, he14⟩ : ∃ e, (decide ((8 : Int) < t.mx)) = e := ⟨_, rfl⟩
     refine qG (.bool e13) (nU e13 (.bool e14)) (by cases e13 <;> first | exact gA | exact gB | exact .inl ⟨rfl, (r_gtr (k := .i64) (a := t.mx) (b := 8) rfl rfl).trans (by rw [he14]; try rfl)⟩) ?_
     obtain ⟨e15, he15⟩ : ∃ e, (e13 || e14) = e := ⟨_, rfl⟩
     refine qV (r_pick (b := e13) (v := .bool e15) rfl (by rw [← he15]; cases e13 <;> rfl)) ?_
     refine WpL_nil ?_
     subst he15
     subst he14
     subst he13
     subst he12
     subst he11
     refine Wp_cond (b := (((decide ((t.mn : Int) < 0)) || (decide ((t.mx : Int) < t.mn))) || (decide ((8 : Int) < t.mx)))) rfl (fun h7 => ?_) (fun h7 => ?_)
     ·have kh7 := h7
      simp at h7
      refine Wp_seq_region ?_
      refine qA (I6 1) rfl ?_
      refine WpL_nil (Wp_ret (inB_ret (thn_ret ?_)))
      refine fin_tmp Tryz.results68 (v := (.int .i64 1)) rfl ?_
      exact ⟨int_eq (by rw [if_pos (by omega)]), E⟩
     ·have kh7 := h7
      simp at h7
      refine Wp_skip (inB_normal (thn_normal (Wp_seq_region ?_)))
      refine qA (I6 0) rfl ?_
      refine WpL_nil (Wp_ret ?_)
      refine fin_tmp Tryz.results68 (v := (.int .i64 0)) rfl ?_
      exact ⟨int_eq (by rw [if_neg (by omega)]), E⟩
    ·have kh6 := h6
     replace h6 := of_decide_eq_false h6
     rw [if_neg h6]
     refine Wp_seq_region ?_
     refine qV (r_eql (k := .i64) (a := t.kind) (b := 9) rfl rfl) ?_
     refine qA (.bool (decide ((t.kind : Int) = 9))) rfl ?_
     refine WpL_nil ?_
     refine Wp_cond (b := decide ((t.kind : Int) = 9)) rfl (fun h9 => ?_) (fun h9 => ?_)
     ·have kh9 := h9
      replace h9 := of_decide_eq_true h9
      rw [if_pos h9]
      refine Wp_seq_region ?_
      refine qF b1 0 3 rfl Tryz.underlying25 rfl siz3 rfl ?_
      refine qV (r_load (v := (I6 t.mn)) rfl flat3 (B1.cell rfl)) ?_
      obtain ⟨e18, he18⟩ : ∃ e, (decide ((t.mn : Int) < 0)) = e := ⟨_, rfl⟩
      refine qV ((r_lss (k := .i64) (a := t.mn) (b := 0) rfl rfl).trans (by rw [he18]; try rfl)) ?_
      refine qM (.bool e18) rfl ?_
      refine qG (.bool e18) (nU e18 (P6 b1 3)) (by cases e18 <;> first | exact gA | exact gB | exact .inl ⟨rfl, r_fieldAddr (b := b1) (o := 0) (o' := 3) rfl Tryz.underlying25 rfl siz3 rfl⟩) ?_
      refine qG (.bool e18) (nU e18 (I6 t.mn)) (by cases e18 <;> first | exact gA | exact gB | exact .inl ⟨rfl, r_load (v := (I6 t.mn)) rfl flat3 (B1.cell rfl)⟩) ?_
      obtain ⟨e19, he19⟩ : ∃ e, (decide ((9 : Int) < t.mn)) = e := ⟨_, rfl⟩
      refine qG (.bool e18) (nU e18 (.bool e19)) (by cases e18 <;> first | exact gA | exact gB | exact .inl ⟨rfl, (r_gtr (k := .i64) (a := t.mn) (b := 9) rfl rfl).trans (by rw [he19]; try rfl)⟩) ?_
      obtain ⟨e20, he20⟩ : ∃ e, (e18 || e19) = e := ⟨_, rfl⟩
      refine qV (r_pick (b := e18) (v := .bool e20) rfl (by rw [← he20]; cases e18 <;> rfl)) ?_
      refine WpL_nil ?_
      subst he20
      subst he19
      subst he18
      refine Wp_cond (b := ((decide ((t.mn : Int) < 0)) || (decide ((9 : Int) < t.mn)))) rfl (fun h8 => ?_) (fun h8 => ?_)
      ·have kh8 := h8
       simp at h8
       refine Wp_seq_region ?_
       refine qA (I6 1) rfl ?_
       refine WpL_nil (Wp_ret (inB_ret (thn_ret ?_)))
       refine fin_tmp Tryz.results68 (v := (.int .i64 1)) rfl ?_
       exact ⟨int_eq (by rw [if_pos (by omega)]), E⟩
      ·have kh8 := h8
       simp at h8
       refine Wp_skip (inB_normal (thn_normal (Wp_seq_region ?_)))
       refine qA (I6 0) rfl ?_
       refine WpL_nil (Wp_ret ?_)
       refine fin_tmp Tryz.results68 (v := (.int .i64 0)) rfl ?_
       exact ⟨int_eq (by rw [if_neg (by omega)]), E⟩
     ·have kh9 := h9
      replace h9 := of_decide_eq_false h9
      rw [if_neg h9]
      refine Wp_skip (inB_normal (thn_normal (Wp_seq_region ?_)))
      refine qA (I6 0) rfl ?_
      refine WpL_nil (Wp_ret ?_)
      refine fin_tmp Tryz.results68 (v := (.int .i64 0)) rfl ?_
      exact ⟨rfl, E⟩
end Go.Proofs
namespace Go.Proofs
open Go Go.Eng
set_option linter.unusedSectionVars false
variable [Drw]
set_option maxRecDepth 100000
def runeB (r : Int) : Bool := decide (0 ≤ r) && decide (r ≤ 1114111)
end Go.Proofs
namespace Go.Proofs
open Go Go.Eng
set_option linter.unusedSectionVars false
variable [Drw]
set_option maxRecDepth 100000
mutual
def okRe : Re → Prop
  | .mk k set args mn mx ng => nodeE (.mk k set args mn mx ng) = 0 ∧ okRes args
def okRes : List Re → Prop
  | [] => True
  | t :: ts => okRe t ∧ okRes ts
end
theorem okRes_get {ts : List Re} (h : okRes ts) {i : Nat} {x : Re} (hx : ts[i]? = some x) : okRe x := by
  induction ts generalizing i with
  | nil => simp at hx
  | cons t ts ih =>
    simp only [okRes] at h
    cases i with
    | zero => simp at hx; subst hx; exact h.1
    | succ i => exact ih h.2 (by simpa using hx)
theorem okRe_node {t : Re} (h : okRe t) : nodeE t = 0 := by cases t; simp only [okRe] at h; exact h.1
theorem okRe_args {t : Re} (h : okRe t) : okRes t.args := by cases t; simp only [okRe] at h; exact h.2
theorem okRe_form {t : Re} (h : okRe t) : 0 ≤ t.kind ∧ t.kind ≤ 10 ∧ formB t = true := by
 have := okRe_node h
 unfold nodeE at this
 split at this
 ·omega
 ·rename_i hk
  split at this
  ·omega
  ·rename_i hf; exact ⟨by omega, by omega, by simpa using hf⟩
theorem okRe_one {t : Re} (h : okRe t) (hk : t.kind = 5 ∨ t.kind = 6 ∨ t.kind = 8 ∨ t.kind = 9 ∨ t.kind = 10) : t.args.length = 1 := by
 obtain ⟨_, _, hf⟩ := okRe_form h
 simp only [formB, Bool.and_eq_true] at hf
 have := hf.1.1.1.1
 unfold okB at this
 rw [if_neg (by omega), if_pos hk] at this
 simp at this; omega
theorem len_lt_size (t : Re) : t.args.length < t.size := by
  rw [Re.size_eq]
  have : ∀ ts : List Re, ts.length ≤ Re.sizes ts := by
    intro ts
    induction ts with
    | nil => simp
    | cons x r ih => have := x.size_pos; simp [Re.sizes]; omega
  have := this t.args
  omega
theorem args_at {w0 : World} {aa : Option Addr} {ts : List Re} (h : ts = [] ∨ ∃ b o, aa = some ⟨b, o, none⟩ ∧ ResAt w0 b o ts) (h0 : 0 < ts.length) : ∃ b o, aa = some ⟨b, o, none⟩ ∧ ResAt w0 b o ts := by
 rcases h with h | h
 ·rw [h] at h0; simp at h0
 ·exact h
end Go.Proofs
namespace Go.Eng
open Go
set_option linter.unusedSectionVars false
variable [Drw]
abbrev Fct := Value → World → Prop
def Stable (F : Fct) : Prop := ∀ v w w', Ext w w' → F v w → F v w'
inductive Fact where
  | eq (v : Value)
  | re (t : Re)
  | res (ts : List Re)
  | gen (F : Fct) (h : Stable F)
def Fact.In : Fact → Fct
  | .eq u, v, _ => v = u
  | .re t, v, w => ∃ vs, v = .agg vs.toArray ∧ ReAt w t vs
  | .res ts, v, w => ∃ b, v = .slice (some ⟨b, 0, none⟩) ts.length ts.length ∧ ResAt w b 0 ts
  | .gen F _, v, w => F v w
theorem Fact.ext {F : Fact} {v : Value} {w w' : World} (h : F.In v w) (e : Ext w w') : F.In v w' := by
  cases F with
  | eq u => exact h
  | re t => obtain ⟨vs, h1, h2⟩ := h; exact ⟨vs, h1, ReAt.ext e t h2⟩
  | res ts => obtain ⟨b, h1, h2⟩ := h; exact ⟨b, h1, ResAt.ext e ts h2⟩
  | gen F hF => exact hF _ _ _ e h
def Does (P : Program) (N : Nat) (o : Oper) (R : Fct) (σ : Env) (w : World) : Prop :=
 ∀ dz a, Ok dz N a → env a = σ → ∀ (Q : Exit → Act → World → Prop) (K : Act → World → Prop), (∀ v w', Ext w w' → R v w' → K (a.put o.dst v) w') → o.wp P a w K Q
def Holds (ds : List Nat) (Fs : List Fact) (j : Nat) (σ : Env) (w : World) : Prop := ∀ d F, ds[j]? = some d → Fs[j]? = some F → F.In (σ d) w
def Guarded (ds : List Nat) (o : Oper) (σ : Env) : Prop := ∀ j b, o.guard = some (j, b) → ∃ d, ds[j]? = some d ∧ σ d = .bool b
def Unmet (ds : List Nat) (o : Oper) (σ : Env) : Prop := ∃ j b d, o.guard = some (j, b) ∧ ds[j]? = some d ∧ (σ d = .bool (!b) ∨ σ d = undef)
section
variable {P : Program} {N : Nat} {o : Oper} {R : Fct} {σ : Env} {w : World}
theorem Does_val {v : Value} {w' : World} (hr : (execOp (ev σ) o).run P w = .ok (.value v) w') (hx : Ext w w') (h : R v w') : Does P N o R σ w := by
 intro dz a ha he Q K hK
 unfold Oper.wp
 rw [eval_env, he, hr]
 simp only [Oper.upon]
 exact hK _ _ hx h
theorem Does_enter {f : FuncId} {args : Array Value} (hr : (execOp (ev σ) o).run P w = .ok (.enter f args) w) (hc : Ret P f args w fun v w' => R v w' ∧ Ext w w') : Does P N o R σ w := by
 intro dz a ha he Q K hK
 unfold Oper.wp
 rw [eval_env, he, hr]
 simp only [Oper.upon]
 refine Calls.mono hc ?_
 rintro e w' ⟨v, rfl, r, x⟩
 exact hK _ _ x r
theorem Guarded_none {ds : List Nat} (h : o.guard = none) : Guarded ds o σ := fun j b hj => by rw [h] at hj; cases hj
end
def dagOne (N i : Nat) (o : Oper) (d : Nat) (ws : List Nat) : Bool :=
 (match o.dst with | some d' => Nat.beq d' d | none => false) && Nat.blt d N && (o.after.all fun e => !Region.binds .any e || Nat.blt e.on i) && ws.all fun j => o.after.any fun e => Region.binds .any e && Nat.beq e.on j
def nodupB : List Nat → Bool
  | [] => true
  | d :: ds => !ds.contains d && nodupB ds
theorem nodupB_get : ∀ {ds : List Nat}, nodupB ds = true → ∀ {i j d : Nat}, ds[i]? = some d → ds[j]? = some d → i = j
  | [], _, i, _, _, h, _ => by simp at h
  | x :: ds, hn, i, j, d, hi, hj => by
    simp only [nodupB, Bool.and_eq_true, Bool.not_eq_true', List.contains_eq_mem, decide_eq_false_iff_not] at hn
    cases i with
    | zero =>
      cases j with
      | zero => rfl
      | succ j => simp at hi hj; subst hi; exact absurd (List.mem_of_getElem? hj) hn.1
    | succ i =>
      cases j with
      | zero => simp at hi hj; subst hj; exact absurd (List.mem_of_getElem? hi) hn.1
      | succ j => simp at hi hj; rw [nodupB_get hn.2 hi hj]
def DagStep (P : Program) (N : Nat) (ds : List Nat) (Fs : List Fact) (σ : Env) (w : World) (o : Oper) (ws : List Nat) (F : Fact) : Prop :=
 ∀ σ' w', Ext w w' → (∀ t, ds.contains t = false → σ' t = σ t) → (∀ j, ws.contains j = true → Holds ds Fs j σ' w') → (Guarded ds o σ' ∧ Does P N o F.In σ' w') ∨ (Unmet ds o σ' ∧ F.In undef w')
theorem lst1 {x a : Value} (h : x = a) : [x] = [a] := by rw [h]
theorem lst2 {x y a b : Value} (h : x = a) (h' : y = b) : [x, y] = [a, b] := by rw [h, h']
section
variable {P : Program} {N : Nat} {σ : Env} {w : World} {dst : Option Tmp} {ty : TypeId} {pos : String} {af : Array Edge} {g : Option (Nat × Bool)} {t : TypeId} {x y : Operand}
theorem run_buildSlice {e : TypeId} {len n : Nat} {z : Value} {parts : List (Nat × Operand)} {ps : List (Nat × Value)} {c : Array Value} (hp : (parts.map fun (i, x) => (i, ev σ x)) = ps) (hu : P.underlying t = some (.slice e)) (hs : Siz P e n) (hz : Zer P e z) (hl : ¬ (len * n > 2 ^ 24)) (h0 : len * n ≠ 0)
  (hc : Instr.fill (fun i => some (i * n, n)) ((Array.range (len * n)).map (z.cells[· % z.cells.size]!)) ps = some c) :
  (execOp (ev σ) ⟨dst, .buildSlice t len parts.toArray, ty, pos, af, g⟩).run P w = .ok (.value (.slice (some ⟨w.heap.size, 0, none⟩) len len)) { w with heap := w.heap.push (.cells c e (0, 0)) } := by
 subst hp
 simp only [execOp, Instr.buildSlice, List.map_toArray, Sem.run_bind, run_underlying hu, Result.andThen_ok, hs.run, hl, h0, if_false, Sem.run_pure, hz.run, hc]
 simp [newRow]
end
end Go.Eng
namespace Go.Eng
open Go
set_option linter.unusedSectionVars false
variable [Drw]
inductive FactT (M : Nat → Prop) where
  | eq (v : Value)
  | gen (F : Fct) (h : ∀ v w w', Chg M w w' → F v w → F v w')
  | own (F : Fct) (h : ∀ v w w', Ext w w' → F v w → F v w')
  | till (F : Fct) (h : ∀ v w w', Ext w w' → F v w → F v w')
def FactT.In {M : Nat → Prop} : FactT M → Fct
  | .eq u, v, _ => v = u
  | .gen F _, v, w => F v w
  | .own F _, v, w => F v w
  | .till F _, v, w => F v w
/-- What a fact says, ahead of the operation that changes memory and behind it. -/
def FactT.At {M : Nat → Prop} (done : Bool) : FactT M → Fct
  | .till F _, v, w => done = false → F v w
  | F, v, w => F.In v w
theorem FactT.at_in {M : Nat → Prop} {F : FactT M} {v : Value} {w : World} (h : F.In v w) (done : Bool) : F.At done v w := by
 cases F <;> first | exact h | exact fun _ => h
def FactT.isOwn {M : Nat → Prop} : FactT M → Bool
  | .own _ _ => true
  | _ => false
theorem FactT.chg {M : Nat → Prop} {F : FactT M} {v : Value} {w w' : World} {done : Bool} (h : F.At done v w) (e : Chg M w w') (ho : F.isOwn = false) : F.At true v w' := by
  cases F with
  | eq u => exact h
  | gen F hF => exact hF _ _ _ e h
  | own F hF => cases ho
  | till F hF => intro hd; cases hd
theorem FactT.ext {M : Nat → Prop} {F : FactT M} {v : Value} {w w' : World} {done : Bool} (h : F.At done v w) (e : Ext w w') : F.At done v w' := by
  cases F with
  | eq u => exact h
  | gen F hF => exact hF _ _ _ (Ext.chg e) h
  | own F hF => exact hF _ _ _ e h
  | till F hF => exact fun hd => hF _ _ _ e (h hd)
/-- Only the fact at one place is of the kind that holds behind that operation alone. -/
def ownB {M : Nat → Prop} (c : Nat) : Nat → List (FactT M) → Bool
  | _, [] => true
  | i, F :: l => (!F.isOwn || Nat.beq i c) && ownB c (i + 1) l
theorem ownB_get {M : Nat → Prop} {c : Nat} : ∀ {i : Nat} {l : List (FactT M)}, ownB c i l = true → ∀ {j : Nat} {F : FactT M}, l[j]? = some F → i + j ≠ c → F.isOwn = false
  | _, [], _, _, _, h, _ => by simp at h
  | i, G :: l, hB, 0, F, h, hne => by
    simp at h; subst h
    simp only [ownB, Bool.and_eq_true, Bool.or_eq_true, Bool.not_eq_true'] at hB
    rcases hB.1 with h | h
    · exact h
    · exact absurd (Nat.eq_of_beq_eq_true h) hne
  | i, G :: l, hB, j + 1, F, h, hne => by
    simp only [ownB, Bool.and_eq_true] at hB
    simp at h
    exact ownB_get hB.2 h (by omega)
def DoesT (M : Nat → Prop) (P : Program) (N : Nat) (o : Oper) (R : Fct) (σ : Env) (w : World) : Prop :=
 ∀ dz a, Ok dz N a → env a = σ → ∀ (Q : Exit → Act → World → Prop) (K : Act → World → Prop), (∀ v w', Chg M w w' → R v w' → K (a.put o.dst v) w') → o.wp P a w K Q
def HoldsT {M : Nat → Prop} (ds : List Nat) (Fs : List (FactT M)) (done : Bool) (j : Nat) (σ : Env) (w : World) : Prop := ∀ d F, ds[j]? = some d → Fs[j]? = some F → F.At done (σ d) w
section
variable {M : Nat → Prop} {P : Program} {N : Nat} {o : Oper} {R : Fct} {σ : Env} {w : World}
theorem DoesT_val {v : Value} {w' : World} (hr : (execOp (ev σ) o).run P w = .ok (.value v) w') (hx : Chg M w w') (h : R v w') : DoesT M P N o R σ w := by
 intro dz a ha he Q K hK
 unfold Oper.wp
 rw [eval_env, he, hr]
 simp only [Oper.upon]
 exact hK _ _ hx h
theorem DoesT_enter {f : FuncId} {args : Array Value} (hr : (execOp (ev σ) o).run P w = .ok (.enter f args) w) (hc : Ret P f args w fun v w' => R v w' ∧ Chg M w w') : DoesT M P N o R σ w := by
 intro dz a ha he Q K hK
 unfold Oper.wp
 rw [eval_env, he, hr]
 simp only [Oper.upon]
 refine Calls.mono hc ?_
 rintro e w' ⟨v, rfl, r, x⟩
 exact hK _ _ x r
end
def dagOneT (N i : Nat) (o : Oper) (d : Nat) (ws : List Nat) : Bool :=
 (match o.dst with | some d' => Nat.beq d' d && Nat.blt d N | none => Nat.ble N d) && (o.after.all fun e => !Region.binds .any e || Nat.blt e.on i) && (ws.all fun j => o.after.any fun e => Region.binds .any e && Nat.beq e.on j) && o.guard.isNone
def dagBT (N : Nat) : Nat → List Oper → List Nat → List (List Nat) → Bool
  | _, [], [], [] => true
  | i, o :: l, d :: ds, ws :: wss => dagOneT N i o d ws && dagBT N (i + 1) l ds wss
  | _, _, _, _ => false
theorem dagBT_get {N : Nat} : ∀ {i : Nat} {l : List Oper} {ds : List Nat} {wss : List (List Nat)}, dagBT N i l ds wss = true → ∀ {j : Nat} {o : Oper}, l[j]? = some o → ∃ d ws, ds[j]? = some d ∧ wss[j]? = some ws ∧ dagOneT N (i + j) o d ws = true
  | _, [], _, _, _, j, o, h => by simp at h
  | i, x :: l, [], _, hB, _, _, _ => by simp [dagBT] at hB
  | i, x :: l, d :: ds, [], hB, _, _, _ => by simp [dagBT] at hB
  | i, x :: l, d :: ds, ws :: wss, hB, j, o, h => by
    simp only [dagBT, Bool.and_eq_true] at hB
    cases j with
    | zero => simp at h; subst h; exact ⟨d, ws, rfl, rfl, hB.1⟩
    | succ j =>
      simp at h
      obtain ⟨d', ws', h1, h2, h3⟩ := dagBT_get hB.2 h
      exact ⟨d', ws', by simpa using h1, by simpa using h2, by rw [show i + (j + 1) = i + 1 + j from by omega]; exact h3⟩
theorem dagBT_len {N : Nat} : ∀ {i : Nat} {l : List Oper} {ds : List Nat} {wss : List (List Nat)}, dagBT N i l ds wss = true → ds.length = l.length
  | _, [], [], [], _ => rfl
  | _, [], [], _ :: _, hB => by simp [dagBT] at hB
  | _, [], _ :: _, _, hB => by simp [dagBT] at hB
  | i, x :: l, [], _, hB => by simp [dagBT] at hB
  | i, x :: l, d :: ds, [], hB => by simp [dagBT] at hB
  | i, x :: l, d :: ds, ws :: wss, hB => by
    simp only [dagBT, Bool.and_eq_true] at hB
    simp [dagBT_len hB.2]
/-- The operations that are sure to come ahead of the one that changes memory, and that one. -/
def calmB (c : Nat) (wss : List (List Nat)) (i : Nat) : Bool := Nat.beq i c || (wss.getD c []).contains i
def valOf (o : Oper) (v : Value) : Value := match o.dst with
  | some _ => v
  | none => undef
def DagStepT {M : Nat → Prop} (P : Program) (N : Nat) (ds : List Nat) (Fs : List (FactT M)) (σ : Env) (w : World) (own calm : Bool) (o : Oper) (ws : List Nat) (F : FactT M) : Prop :=
 ∀ σ' w', Chg (bif calm then none1 else M) w w' → (∀ t, ds.contains t = false → σ' t = σ t) → (∀ j, ws.contains j = true → HoldsT ds Fs (!calm) j σ' w') → DoesT (bif own then M else none1) P N o (fun v w => F.In (Go.Eng.valOf o v) w) σ' w'
inductive DagStepsT {M : Nat → Prop} (P : Program) (N : Nat) (ds : List Nat) (Fs : List (FactT M)) (σ : Env) (w : World) (c : Nat) (all : List (List Nat)) : Nat → List Oper → List (List Nat) → List (FactT M) → Prop where
  | nil {i : Nat} : DagStepsT P N ds Fs σ w c all i [] [] []
  | cons {i : Nat} {o : Oper} {ws : List Nat} {F : FactT M} {l : List Oper} {wss : List (List Nat)} {Gs : List (FactT M)} : DagStepT P N ds Fs σ w (Nat.beq i c) (calmB c all i) o ws F → DagStepsT P N ds Fs σ w c all (i + 1) l wss Gs → DagStepsT P N ds Fs σ w c all i (o :: l) (ws :: wss) (F :: Gs)
theorem DagStepsT.get {M : Nat → Prop} {P : Program} {N : Nat} {ds : List Nat} {Fs : List (FactT M)} {σ : Env} {w : World} {c : Nat} {all : List (List Nat)} : ∀ {i : Nat} {l : List Oper} {wss : List (List Nat)} {Gs : List (FactT M)}, DagStepsT P N ds Fs σ w c all i l wss Gs → ∀ {j : Nat} {o : Oper}, l[j]? = some o → ∃ ws F, wss[j]? = some ws ∧ Gs[j]? = some F ∧ DagStepT P N ds Fs σ w (Nat.beq (i + j) c) (calmB c all (i + j)) o ws F
  | _, _, _, _, .nil, j, o, h => by simp at h
  | _, _, _, _, .cons h1 h2, 0, o, h => by simp at h; subst h; exact ⟨_, _, rfl, rfl, h1⟩
  | i, _, _, _, .cons h1 h2, j + 1, o, h => by
    obtain ⟨ws, F, a, b, c⟩ := h2.get (j := j) (by simpa using h)
    exact ⟨ws, F, by simpa using a, by simpa using b, by rw [show i + (j + 1) = i + 1 + j from by omega]; exact c⟩
def headDone (n m : Nat) : Array Bool := (List.replicate n true ++ List.replicate (m - n) false).toArray
theorem count_take_set {l : List Bool} {n i : Nat} (hi : i < n) (hl : n ≤ l.length) (hf : l[i]? = some false) : ((l.set i true).take n).count false + 1 = (l.take n).count false := by
 have hi' : i < (l.take n).length := by simp; omega
 rw [List.take_set, List.count_set hi']
 have : (l.take n)[i] = false := by
  have h2 : (l.take n)[i]? = some false := by rw [List.getElem?_take_of_lt hi]; exact hf
  rw [List.getElem?_eq_getElem hi'] at h2; simpa using h2
 rw [this, if_pos (by rfl), if_neg (by decide)]
 have : 0 < (l.take n).count false := by
  rw [List.count_pos_iff]
  rw [← this]; exact List.getElem_mem hi'
 omega
theorem head_all {l : List Bool} {n : Nat} (hl : n ≤ l.length) (h0 : (l.take n).count false = 0) (ht : ∀ t, n ≤ t → t < l.length → l[t]? = some false) : l = List.replicate n true ++ List.replicate (l.length - n) false := by
  apply List.ext_getElem?
  intro i
  rcases Nat.lt_or_ge i n with h | h
  · rw [List.getElem?_append_left (by simpa using h), List.getElem?_replicate, if_pos h]
    have hi : i < l.length := by omega
    rw [List.getElem?_eq_getElem hi]
    cases hv : l[i] with
    | true => rfl
    | false =>
      exfalso
      rw [List.count_eq_zero] at h0
      apply h0
      have : (l.take n)[i]? = some false := by rw [List.getElem?_take_of_lt h, List.getElem?_eq_getElem hi, hv]
      exact List.mem_of_getElem? this
  · rw [List.getElem?_append_right (by simpa using h), List.getElem?_replicate, List.length_replicate]
    rcases Nat.lt_or_ge i l.length with h2 | h2
    · rw [if_pos (by omega), ht i h h2]
    · rw [if_neg (by omega), List.getElem?_eq_none h2]
theorem Wp_dagT {P : Program} {N : Nat} {Q : Post} {σ : Env} {w : World} {id : Nat} {l : List Oper} (M : Nat → Prop) (n c : Nat) (ds : List Nat) (wss : List (List Nat)) (Fs : List (FactT M)) {Gs : List (FactT M)} (hG : Fs = Gs) (hO : ownB c 0 Gs = true) (hm : P.follows .mixedOrders = true) (hB : dagBT N 0 (l.take n) ds wss = true) (hn : nodupB ds = true)
    (hT : (decide (n < l.length) && Region.sinkB .any l.toArray n && Region.chainB .any l.toArray n && Region.seqB .any l.toArray (l.length - n) n (headDone n l.length)) = true)
    (steps : ∀ w1, Ext w w1 → DagStepsT P N ds Fs σ w1 c wss 0 (l.take n) wss Gs)
    (k : ∀ σ' w1 w', Ext w w1 → Chg M w1 w' → (∀ t, ds.contains t = false → σ' t = σ t) → (∀ j, HoldsT ds Fs true j σ' w') → WpL P N l.toArray (Q .normal) Q (l.drop n) σ' w') : Wp P N (.region id l.toArray true) Q σ w := by
  intro dz a ha he
  have eQ : lift dz N (thn (Q .normal) Q) = lift dz N Q := by funext e a w; cases e <;> rfl
  refine wp_region_any hm ?_
  obtain ⟨w1, hw1⟩ : ∃ w1 : World, w1 = { w with drawn := w.drawn + 1 } := ⟨_, rfl⟩
  have hE1 : Ext w w1 := by rw [hw1]; exact drew_ext w
  rw [← hw1]
  have hst := steps w1 hE1
  rw [← hG] at hst
  simp only [Bool.and_eq_true, decide_eq_true_eq] at hT
  obtain ⟨⟨⟨hnl, hs⟩, hc⟩, hseq⟩ := hT
  have toM : ∀ {q : Bool} {u u' : World}, Chg (bif q then M else none1) u u' → Chg M u u' := fun {q u u'} h => by cases q with | true => exact h | false => exact Ext.chg h
  have hlen : ds.length = n := by rw [dagBT_len hB]; simp; omega
  have key : ∀ (m : Nat) (listed : Array Bool) (a : Act) (w' : World), (listed.toList.take n).count false = m → HeadInv .any l.toArray n listed → Ok dz N a → Chg (bif listed.getD c false then M else none1) w1 w' → (∀ t, ds.contains t = false → env a t = σ t) → (∀ j, listed.getD j false = true → HoldsT ds Fs (listed.getD c false) j (env a) w') →
      wpAny P .any l.toArray (lift dz N Q) (m + (l.length - n)) listed a w' := by
    intro m
    induction m with
    | zero =>
      intro listed a w' hc0 inv ha hx hu hh
      have hsz : listed.size = l.length := by simpa using inv.size
      have hl : listed = headDone n l.length := by
        apply Array.ext'
        rw [headDone]
        have := head_all (l := listed.toList) (n := n) (by simp; omega) hc0 (by
          intro t h1 h2
          have h2' : t < listed.size := by simpa using h2
          have := inv.tail t h1 (by simpa [hsz] using h2')
          simp only [Array.getD_eq_getD_getElem?, Array.getElem?_eq_getElem h2', Option.getD_some] at this
          simp [h2', this])
        rw [this]; simp [hsz]
      rw [Nat.zero_add]
      have h1 := k (env a) w1 w' hE1 (toM hx) hu (fun j d F hd hF => by
        have hj : j < n := by have := lt_of_get hd; omega
        have h2 := hh j (by
          rw [hl, headDone]
          simp [Array.getD_eq_getD_getElem?, List.getElem?_append_left, hj]) d F hd hF
        cases F with
        | till F hF => intro hd; cases hd
        | eq u => exact h2
        | gen F hF => exact h2
        | own F hF => exact h2) dz a ha rfl
      rw [eQ] at h1
      have := wpAny_of_seq (P := P) (md := .any) (ops := l.toArray) (Q' := lift dz N Q) (l.drop n) n listed a w' (fun j => by simp [List.getElem?_drop]) (by rw [List.length_drop, hl]; exact hseq) h1
      rwa [List.length_drop] at this
    | succ m ih =>
      intro listed a w' hcm inv ha hx hu hh
      have hsz : listed.size = l.length := by simpa using inv.size
      obtain ⟨i0, hi0n, hi0⟩ : ∃ i, i < n ∧ listed.getD i true = false := by
        have : 0 < (listed.toList.take n).count false := by omega
        rw [List.count_pos_iff] at this
        obtain ⟨i, hi, he⟩ := List.getElem_of_mem this
        have hin : i < n := by simp at hi; omega
        refine ⟨i, hin, ?_⟩
        have hil : i < listed.size := by simp at hi; omega
        simp only [Array.getD_eq_getD_getElem?, Array.getElem?_eq_getElem hil, Option.getD_some]
        simpa using he
      rw [show m + 1 + (l.length - n) = (m + (l.length - n)) + 1 by omega]
      refine ⟨fun hr => ?_, fun i hi => ?_⟩
      · exfalso
        have hall : ∀ i, i < n → listed.getD i true = true := by
          intro i
          induction i using Nat.strongRecOn with
          | _ i ihi =>
            intro hi
            cases hv : listed.getD i true with
            | true => rfl
            | false =>
              exfalso
              obtain ⟨o, ho⟩ := get_of_lt (l := l) (i := i) (by omega)
              have ho' : (l.take n)[i]? = some o := by rw [List.getElem?_take_of_lt hi]; exact ho
              obtain ⟨d, ws, _, _, h3⟩ := dagBT_get hB ho'
              have : i ∈ Region.ready .any l.toArray listed := by
                refine mem_ready.2 ⟨hv, o, by simpa using ho, fun e he hb => ?_⟩
                simp only [dagOneT, Bool.and_eq_true, Array.all_eq_true_iff_forall_mem, Bool.or_eq_true, Bool.not_eq_true', Nat.zero_add] at h3
                have := (h3.1.1.2 e he).resolve_left (by simp [hb])
                have hlt : e.on < i := by simpa [Nat.blt_eq] using this
                have h4 := ihi e.on hlt (by omega)
                have hj : e.on < listed.size := by omega
                simpa only [Array.getD_eq_getD_getElem?, Array.getElem?_eq_getElem hj, Option.getD_some] using h4
              rw [hr] at this
              cases this
        rw [hall i0 hi0n] at hi0
        cases hi0
      · have hin : i < n := by
          rcases Nat.lt_or_ge i n with h | h
          · exact h
          · exact absurd hi (tail_waits hs hc (by simpa using hnl) inv _ i0 rfl hi0n hi0 i h)
        obtain ⟨h1, o, h2, h3⟩ := mem_ready.1 hi
        have hil : i < listed.size := by omega
        have ho : l[i]? = some o := by simpa using h2
        have ho' : (l.take n)[i]? = some o := by rw [List.getElem?_take_of_lt hin]; exact ho
        obtain ⟨d, ws, hd, hws, h4⟩ := dagBT_get hB ho'
        obtain ⟨ws', F, hws', hF, hstep⟩ := hst.get ho'
        rw [hws] at hws'
        cases hws'
        simp only [Nat.zero_add] at hstep
        simp only [dagOneT, Bool.and_eq_true, List.all_eq_true, Array.any_eq_true', Array.all_eq_true_iff_forall_mem, Bool.or_eq_true, Bool.not_eq_true', Nat.zero_add] at h4
        obtain ⟨⟨⟨hdst, _⟩, hwait⟩, hgd⟩ := h4
        have hgd : o.guard = none := by simpa using hgd
        -- what is sure to come ahead of the change
        have hcalm : calmB c wss i = true → listed.getD c false = false := by
          intro hcb
          simp only [calmB, Bool.or_eq_true] at hcb
          rcases hcb with hcb | hcb
          · have : i = c := Nat.eq_of_beq_eq_true hcb
            subst this; exact getD_both h1
          · cases hlc : listed.getD c false with
            | false => rfl
            | true =>
              exfalso
              have hcn : c < n := by
                rcases Nat.lt_or_ge c n with h | h
                · exact h
                · rcases Nat.lt_or_ge c l.length with h' | h'
                  · have := getD_both (inv.tail c h (by simpa using h')); rw [this] at hlc; cases hlc
                  · simp [Array.getElem?_eq_none (show listed.size ≤ c by omega)] at hlc
              obtain ⟨oc, hoc⟩ := get_of_lt (l := l) (i := c) (by omega)
              have hoc' : (l.take n)[c]? = some oc := by rw [List.getElem?_take_of_lt hcn]; exact hoc
              obtain ⟨dc, wsc, _, hwsc, h5⟩ := dagBT_get hB hoc'
              have hgc : wss.getD c [] = wsc := by simp [hwsc]
              rw [hgc] at hcb
              simp only [dagOneT, Bool.and_eq_true, List.all_eq_true, Array.any_eq_true', Nat.zero_add] at h5
              obtain ⟨e, he, hb1, hb2⟩ := h5.1.2 i (by simpa using hcb)
              have hei : e.on = i := Nat.eq_of_beq_eq_true hb2
              have := inv.closed c oc (by simpa using hoc) hlc e he hb1
              rw [hei, getD_both h1] at this
              cases this
        have hH : ∀ j, ws.contains j = true → HoldsT ds Fs (!calmB c wss i) j (env a) w' := by
          intro j hj d' F' hd' hF'
          have hj' : j ∈ ws := by simpa using hj
          obtain ⟨e, he, hb⟩ := hwait j hj'
          obtain ⟨hb1, hb2⟩ := hb
          have : e.on = j := Nat.eq_of_beq_eq_true hb2
          have h5 := hh j (this ▸ h3 e he hb1) d' F' hd' hF'
          cases hcb : calmB c wss i with
          | true => rw [hcalm hcb] at h5; exact h5
          | false =>
            cases F' with
            | till F hF => intro hd; cases hd
            | eq u => exact h5
            | gen F hF => exact h5
            | own F hF => exact h5
        have hstep2 : (∀ w2, Chg (bif Nat.beq i c then M else none1) w' w2 → Chg (bif (listed.setIfInBounds i true).getD c false then M else none1) w1 w2) := by
          intro w2 hx2
          by_cases hic : i = c
          · subst hic
            rw [Nat.beq_refl] at hx2
            have hg : (listed.setIfInBounds i true).getD i false = true := by simp [Array.getD_eq_getD_getElem?, hil]
            rw [hg]
            exact (toM hx).trans hx2
          · have hb : Nat.beq i c = false := by cases hb : Nat.beq i c; rfl; exact absurd (Nat.eq_of_beq_eq_true hb) hic
            rw [hb] at hx2
            rw [getD_set_ne _ hic]
            exact hx.ext hx2
        have cont : ∀ v w2, Chg (bif Nat.beq i c then M else none1) w' w2 → F.In (Go.Eng.valOf o v) w2 → wpAny P .any l.toArray (lift dz N Q) (m + (l.length - n)) (listed.setIfInBounds i true) (a.put o.dst v) w2 := by
          intro v w2 hx2 hv
          have henv : (∀ t, t ≠ d → env (a.put o.dst v) t = env a t) ∧ env (a.put o.dst v) d = Go.Eng.valOf o v := by
            cases hod : o.dst with
            | none =>
              rw [hod] at hdst
              have hNd : N ≤ d := Nat.le_of_ble_eq_true hdst
              refine ⟨fun t _ => rfl, ?_⟩
              simp only [Go.Eng.valOf, hod]
              show a.tmps.getD d undef = undef
              have : a.tmps.size ≤ d := by rw [ha.size]; exact hNd
              simp [Array.getElem?_eq_none this]
            | some d' =>
              rw [hod] at hdst
              simp only [Bool.and_eq_true] at hdst
              have hd1 : d' = d := Nat.eq_of_beq_eq_true hdst.1
              have hd2 : d < N := by simpa [Nat.blt_eq] using hdst.2
              subst hd1
              rw [env_put ha hd2 v]
              refine ⟨fun t ht => ?_, ?_⟩
              · have : Nat.beq t d' = false := by cases hb : Nat.beq t d'; rfl; exact absurd (Nat.eq_of_beq_eq_true hb) ht
                simp [upd, this]
              · simp [upd, Go.Eng.valOf, hod]
          refine ih _ _ _ ?_ (inv.set hi hin) (ha.put _ _) (hstep2 w2 hx2) ?_ ?_
          · have hl : listed.toList[i]? = some false := by
              simp only [Array.getD_eq_getD_getElem?, Array.getElem?_eq_getElem hil, Option.getD_some] at h1
              simp [hil, h1]
            have := count_take_set (l := listed.toList) hin (by simp; omega) hl
            rw [Array.toList_setIfInBounds]
            omega
          · intro t ht
            rw [henv.1 t (fun h => by
              subst h
              have := List.mem_of_getElem? hd
              simp [this] at ht), hu t ht]
          · intro j hj d' F' hd' hF'
            by_cases hij : j = i
            · subst hij
              rw [hd] at hd'; cases hd'
              rw [hF] at hF'; cases hF'
              rw [henv.2]
              exact FactT.at_in hv _
            · have hne : d' ≠ d := by
                intro h
                subst h
                exact hij (nodupB_get hn hd' hd)
              rw [henv.1 d' hne]
              rw [getD_set_ne _ (Ne.symm hij)] at hj
              have h6 := hh j hj d' F' hd' hF'
              by_cases hic : i = c
              · have hg : (listed.setIfInBounds i true).getD c false = true := by rw [← hic]; simp [Array.getD_eq_getD_getElem?, hil]
                rw [hg]
                exact FactT.chg h6 (toM hx2) (ownB_get hO (by rw [← hG]; exact hF') (by omega))
              · have hb : Nat.beq i c = false := by
                  cases hb : Nat.beq i c
                  · rfl
                  · exact absurd (Nat.eq_of_beq_eq_true hb) hic
                rw [hb] at hx2
                rw [getD_set_ne _ hic]
                exact FactT.ext h6 hx2
        have hx0 : Chg (bif calmB c wss i then none1 else M) w1 w' := by
          cases hcb : calmB c wss i with
          | true => rw [hcalm hcb] at hx; exact hx
          | false => exact toM hx
        have hdo := hstep (env a) w' hx0 hu hH
        have hw : Region.wanted o (yielded l.toArray a.tmps) = true := by simp [Region.wanted, hgd]
        unfold wpOp
        simp only [h2, hw, if_true]
        exact Or.inl (hdo _ a ha rfl _ _ cont)
  have inv0 : HeadInv .any l.toArray n (Array.replicate l.toArray.size false) :=
    ⟨by simp, fun j oj _ hl => (by rw [getD_replicate_false] at hl; cases hl), fun t _ ht => getD_in (by simpa using ht) (getD_replicate_false _ _)⟩
  have h1 := key n (Array.replicate l.toArray.size false) a w1 (by simp; omega) inv0 ha (by rw [getD_replicate_false]; exact Chg.refl _ _) (fun t _ => by rw [he]) (fun j hj => by rw [getD_replicate_false] at hj; cases hj)
  have e3 : n + (l.length - n) = l.toArray.size := by simp; omega
  rw [e3] at h1
  exact h1
end Go.Eng
namespace Go.Proofs
open Go Go.Eng
set_option linter.unusedSectionVars false
variable [Drw]
set_option maxRecDepth 100000
section
variable {P : Program} {σ : Env} {w : World} {dst : Option Tmp} {ty : TypeId} {pos : String} {af : Array Edge} {g : Option (Nat × Bool)} {t t' e : TypeId} {x y : Operand}
theorem r_eqlNil {a : Option Addr} {n c n' c' : Nat} (hu : P.underlying t = some (.slice e)) (hx : ev σ x = .slice a n c) (hy : ev σ y = .slice none n' c') :
  (execOp (ev σ) ⟨dst, .binOp .eql t x y t', ty, pos, af, g⟩).run P w = .ok (.value (.bool a.isNone)) w := by
 have h : (Op.equalIn 10000 t (.slice a n c) (.slice none n' c')).run P w = .ok a.isNone w := by
  rw [Op.equalIn]
  cases a <;> simp [run_underlying hu]
 cases a <;> simp_all [execOp, eqGuard, binOp, Op.equal, Op.maxDepth]
theorem r_append0 {s : Operand} {a a' : Option Addr} {n c c' size : Nat} (hu : P.underlying t = some (.slice e)) (hs : Siz P e size) (hx : ev σ s = .slice a n c) (hn : n ≤ c) (hy : ev σ x = .slice a' 0 c') :
  (execOp (ev σ) ⟨dst, .call ⟨.builtin .append, #[s, x], #[t, t]⟩, ty, pos, af, g⟩).run P w = .ok (.value (.slice a n c)) w := by
 have hz : size * 0 = 0 := Nat.mul_zero _
 cases a <;> cases a' <;> simp [execOp, resolve, invoke, builtin, Builtin.append_, hx, hy, run_underlying hu, hs.run, Builtin.lenOf, Builtin.firstCells, loadCells, loadCellsFrom, storeCells, hn]
theorem s_build0 {N : Nat} {Q : Post} {K : Env → World → Prop} {ops : Array Oper} {rest : List Oper} {d size : Nat} (hN : d < N) (hu : P.underlying t = some (.slice e)) (hs : Siz P e size)
  (k : ∀ b w', New w w' b #[] e → WpL P N ops K Q rest (upd σ d (.slice (some ⟨b, 0, none⟩) 0 0)) w') : WpL P N ops K Q (⟨some d, .buildSlice t 0 #[], ty, pos, af, none⟩ :: rest) σ w := by
 refine WpL_val (v := .slice (some ⟨w.heap.size, 0, none⟩) 0 0) (w' := { w with heap := w.heap.push (.cells #[] e (0, 0)) }) rfl rfl hN ?_ (k _ _ (New.mk' w #[] e))
 have h0 : Array.range 0 = #[] := rfl
 simp [execOp, Instr.buildSlice, run_underlying hu, hs.run, Instr.fill, newRow, h0]
end
theorem own_empty {w : World} {b e base size : Nat} (h : Blk w b #[] e) (hb : base ≤ b) : w.ownsRow base e size (.slice (some ⟨b, 0, none⟩) 0 0) 0 [] :=
 ⟨by simp, .inr ⟨b, 0, #[], rfl, hb, h, Nat.le_refl _, by simp [maxLen], by simp, by simp⟩⟩
end Go.Proofs
namespace Go.Proofs
open Go Go.Eng
set_option linter.unusedSectionVars false
variable [Drw]
set_option maxRecDepth 100000
def fitF (most : Int) : Int × Int → Re → Bool × (Int × Int) := fun s t =>
 let n := IntKind.i64.wrap (s.1 + 1)
 let e := if most < n then 2 else nodeE t
 (decide (e = 0), (n, e))
def fitsE (t : Re) (most : Int) : Int := (walkF (fitF most) t (0, 0)).2.2
theorem fits1_c (wb w0 : World) (t : Re) (vs : List Value) (ht : ReAt wb t vs) (hE : Ext wb w0) (b1' b2' b3' : Nat) (s : Int × Int) (most : Int) (h0 : wb.heap.size ≤ b2') (h12 : b2' < b1') (h13 : b1' < b3')
  (hB1 : Blk w0 b1' #[.int .i64 s.1] 3) (hB2 : Blk w0 b2' #[.int .i64 most] 3) (hB3 : Blk w0 b3' #[.int .i64 s.2] 26) :
  Ret Tryz.prog 67 #[.agg vs.toArray, .pointer (some ⟨b1', 0, none⟩), .pointer (some ⟨b2', 0, none⟩), .pointer (some ⟨b3', 0, none⟩)] w0
   fun v w => v = .bool (fitF most s t).1 ∧ Chg (fun x => x = b1' ∨ x = b3') w0 w ∧ Blk w b1' #[.int .i64 (fitF most s t).2.1] 3 ∧ Blk w b2' #[.int .i64 most] 3 ∧ Blk w b3' #[.int .i64 (fitF most s t).2.2] 26 := by
 have ht0 := ht
 obtain ⟨sa, sc, aa, ac, rfl, hset, hlen, hargs⟩ := ht.form
 refine Ret_of Tryz.func67 rfl Tryz.ntmps67 (Nat.le_of_ble_eq_true rfl) ?_
 have E : Chg (fun x => x = b1' ∨ x = b3') w0 w0 := Chg.refl _ _
 refine Wp_seq_region ?_
 refine s_box (v := (.agg (R6 t sa sc aa ac))) (c := (R6 t sa sc aa ac)) (by decide) rfl rfl ?_
 intro b1 w1 N1
 have F1 := N1.ge E
 have O1_b1' := N1.lt hB1
 have O1_b2' := N1.lt hB2
 have O1_b3' := N1.lt hB3
 replace hB1 := N1.keep hB1
 replace hB2 := N1.keep hB2
 replace hB3 := N1.keep hB3
 replace E := E.ext N1.ext
 have B1 := N1.blk
 refine qA (.bool false) rfl ?_
 refine WpL_nil (Wp_seq (Wp_seq_region ?_))
 refine qV (r_load (v := (I6 s.1)) rfl flat3 (hB1.cell rfl)) ?_
 refine qV (r_add (k := .i64) (a := s.1) (b := 1) (c := IntKind.i64.wrap (s.1 + 1)) rfl rfl (rfl)) ?_
 refine s_store (b := b1') (o := 0) (c' := #[(I6 (IntKind.i64.wrap (s.1 + 1)))]) (v := (I6 (IntKind.i64.wrap (s.1 + 1)))) rfl rfl rfl siz3 hB1 (by simp) rfl ?_
 intro w2 S2
 replace hB2 := S2.keep (by omega) hB2
 replace hB3 := S2.keep (by omega) hB3
 replace B1 := S2.keep (by omega) B1
 replace E := S2.step E (by first | exact Or.inl (by omega) | assumption | exact Or.inr rfl | exact Or.inr (by assumption) | exact Or.inr (by simp) | exact Or.inr (by omega) | exact Or.inr (by dsimp only; omega))
 replace hB1 := S2.blk
 refine WpL_nil (Wp_seq_region ?_)
 refine qV (r_load (v := (I6 (IntKind.i64.wrap (s.1 + 1)))) rfl flat3 (hB1.cell rfl)) ?_
 refine qV (r_load (v := (I6 most)) rfl flat3 (hB2.cell rfl)) ?_
 refine qV (r_gtr (k := .i64) (a := IntKind.i64.wrap (s.1 + 1)) (b := most) rfl rfl) ?_
 refine WpL_nil ?_
 refine Wp_cond (b := decide ((most : Int) < IntKind.i64.wrap (s.1 + 1))) rfl (fun h => ?_) (fun h => ?_)
 ·have kh := h
  replace h := of_decide_eq_true h
  refine Wp_region ?_
  refine s_store (b := b3') (o := 0) (c' := #[(I6 2)]) (v := (I6 2)) rfl rfl rfl siz26 hB3 (by simp) rfl ?_
  intro w4 S4
  replace hB1 := S4.keep (by omega) hB1
  replace hB2 := S4.keep (by omega) hB2
  replace B1 := S4.keep (by omega) B1
  replace E := S4.step E (by first | exact Or.inl (by omega) | assumption | exact Or.inr rfl | exact Or.inr (by assumption) | exact Or.inr (by simp) | exact Or.inr (by omega) | exact Or.inr (by dsimp only; omega))
  replace hB3 := S4.blk
  refine WpL_nil (thn_normal (Wp_seq_region ?_))
  refine qV (r_load (v := (I6 2)) rfl flat26 (hB3.cell rfl)) ?_
  refine qV (r_eql (k := .i64) (a := 2) (b := 0) rfl rfl) ?_
  refine qA (.bool false) rfl ?_
  refine WpL_nil (Wp_ret ?_)
  refine fin_tmp Tryz.results67 (v := (.bool false)) rfl ?_
  exact ⟨by simp [fitF, h], E, by simpa [fitF] using hB1, hB2, by simpa [fitF, h] using hB3⟩
 ·have kh := h
  replace h := of_decide_eq_false h
  refine Wp_region ?_
  refine qV (r_loadAgg (vs := [(I6 t.kind), (.slice sa t.set.length sc), (.slice aa t.args.length ac), (I6 t.mn), (I6 t.mx), (.bool t.neg)]) rfl agg25 siz25 rfl (B1.cells rfl)) ?_
  refine WpL_enter rfl rfl (by decide) (r_callF (vs := [(.agg (R6 t sa sc aa ac))]) Tryz.func68 nm68 bd68 rfl) (node_c wb _ t _ ht0 (Chg.step hE E fun x hx hm => by rcases hm with hm | hm <;> omega)) ?_
  rintro _ w9 ⟨rfl, X9⟩
  replace hB1 := X9.keep hB1
  replace hB2 := X9.keep hB2
  replace hB3 := X9.keep hB3
  replace B1 := X9.keep B1
  replace E := E.ext X9
  refine s_store (b := b3') (o := 0) (c' := #[(I6 (nodeE t))]) (v := (I6 (nodeE t))) rfl rfl rfl siz26 hB3 (by simp) rfl ?_
  intro w5 S5
  replace hB1 := S5.keep (by omega) hB1
  replace hB2 := S5.keep (by omega) hB2
  replace B1 := S5.keep (by omega) B1
  replace E := S5.step E (by first | exact Or.inl (by omega) | assumption | exact Or.inr rfl | exact Or.inr (by assumption) | exact Or.inr (by simp) | exact Or.inr (by omega) | exact Or.inr (by dsimp only; omega))
  replace hB3 := S5.blk
  refine WpL_nil (thn_normal (Wp_seq_region ?_))
  refine qV (r_load (v := (I6 (nodeE t))) rfl flat26 (hB3.cell rfl)) ?_
  refine qV (r_eql (k := .i64) (a := nodeE t) (b := 0) rfl rfl) ?_
  refine qA (.bool (decide ((nodeE t : Int) = 0))) rfl ?_
  refine WpL_nil (Wp_ret ?_)
  refine fin_tmp Tryz.results67 (v := (.bool (decide ((nodeE t : Int) = 0)))) rfl ?_
  exact ⟨by simp [fitF, h], E, by simpa [fitF] using hB1, hB2, by simpa [fitF, h] using hB3⟩
theorem fits_c (w0 : World) (t : Re) (vs : List Value) (ht : ReAt w0 t vs) (most : Int) :
  Ret Tryz.prog 39 #[.agg vs.toArray, .int .i64 most] w0 fun v w => v = .int .i64 (fitsE t most) ∧ Ext w0 w := by
 have ht0 := ht
 obtain ⟨sa, sc, aa, ac, rfl, hset, hlen, hargs⟩ := ht.form
 refine Ret_of Tryz.func39 rfl Tryz.ntmps39 (Nat.le_of_ble_eq_true rfl) ?_
 have E : Chg none1 w0 w0 := Chg.refl _ _
 refine Wp_seq_region ?_
 refine s_box (v := (.agg (R6 t sa sc aa ac))) (c := (R6 t sa sc aa ac)) (by decide) rfl rfl ?_
 intro b1 w1 N1
 have F1 := N1.ge E
 replace E := E.ext N1.ext
 have B1 := N1.blk
 refine s_box (v := (I6 most)) (c := #[(I6 most)]) (by decide) rfl rfl ?_
 intro b2 w2 N2
 have F2 := N2.ge E
 have O2_b1 := N2.lt B1
 replace B1 := N2.keep B1
 replace E := E.ext N2.ext
 have B2 := N2.blk
 refine qA (I6 0) rfl ?_
 refine WpL_nil (Wp_seq_region ?_)
 refine s_alloc (c := #[(I6 0)]) (by decide) zer3 rfl ?_
 intro b3 w3 N3
 have F3 := N3.ge E
 have O3_b1 := N3.lt B1
 have O3_b2 := N3.lt B2
 replace B1 := N3.keep B1
 replace B2 := N3.keep B2
 replace E := E.ext N3.ext
 have B3 := N3.blk
 refine s_alloc (c := #[(I6 0)]) (by decide) zer26 rfl ?_
 intro b4 w4 N4
 have F4 := N4.ge E
 have O4_b1 := N4.lt B1
 have O4_b2 := N4.lt B2
 have O4_b3 := N4.lt B3
 replace B1 := N4.keep B1
 replace B2 := N4.keep B2
 replace B3 := N4.keep B3
 replace E := E.ext N4.ext
 have B4 := N4.blk
 refine s_store (b := b3) (o := 0) (c' := #[(I6 0)]) (v := (I6 0)) rfl rfl rfl siz3 B3 (by simp) rfl ?_
 intro w5 S5
 replace B1 := S5.keep (by omega) B1
 replace B2 := S5.keep (by omega) B2
 replace B4 := S5.keep (by omega) B4
 replace E := S5.step E (by first | exact Or.inl (by omega) | assumption | exact Or.inr rfl | exact Or.inr (by assumption) | exact Or.inr (by simp) | exact Or.inr (by omega) | exact Or.inr (by dsimp only; omega))
 replace B3 := S5.blk
 refine s_store (b := b4) (o := 0) (c' := #[(I6 0)]) (v := (I6 0)) rfl rfl rfl siz26 B4 (by simp) rfl ?_
 intro w6 S6
 replace B1 := S6.keep (by omega) B1
 replace B2 := S6.keep (by omega) B2
 replace B3 := S6.keep (by omega) B3
 replace E := S6.step E (by first | exact Or.inl (by omega) | assumption | exact Or.inr rfl | exact Or.inr (by assumption) | exact Or.inr (by simp) | exact Or.inr (by omega) | exact Or.inr (by dsimp only; omega))
 replace B4 := S6.blk
 refine WpL_nil (Wp_seq_region ?_)
 refine qV (r_loadAgg (vs := [(I6 t.kind), (.slice sa t.set.length sc), (.slice aa t.args.length ac), (I6 t.mn), (I6 t.mx), (.bool t.neg)]) rfl agg25 siz25 rfl (B1.cells rfl)) ?_
 refine qV (r_makeFunc (vs := []) (us := [(P6 b3 0), (P6 b2 0), (P6 b4 0)]) rfl rfl) ?_
 have hf : ∀ (s : Int × Int) (w : World) (t : Re) (vs : List Value), b4 + 1 ≤ w.heap.size → Ext w0 w → (Blk w b3 #[.int .i64 s.1] 3 ∧ Blk w b2 #[.int .i64 most] 3 ∧ Blk w b4 #[.int .i64 s.2] 26) → ReAt w0 t vs → CallV Tryz.prog (.func (.func 67) #[] #[.pointer (some ⟨b3, 0, none⟩), .pointer (some ⟨b2, 0, none⟩), .pointer (some ⟨b4, 0, none⟩)]) #[.agg vs.toArray] w fun v w' => v = .bool (fitF most s t).1 ∧ Chg (fun x => x = b3 ∨ x = b4) w w' ∧ (Blk w' b3 #[.int .i64 (fitF most s t).2.1] 3 ∧ Blk w' b2 #[.int .i64 most] 3 ∧ Blk w' b4 #[.int .i64 (fitF most s t).2.2] 26) := fun s w t vs _ hE hI ht => CallV.mk (first := #[]) (cap := #[.pointer (some ⟨b3, 0, none⟩), .pointer (some ⟨b2, 0, none⟩), .pointer (some ⟨b4, 0, none⟩)]) (args := #[.agg vs.toArray]) Tryz.func67 nm67 bd67 rfl (fits1_c w0 w t vs ht hE b3 b2 b4 s most (by omega) (by omega) (by omega) hI.1 hI.2.1 hI.2.2)
 refine WpL_enter rfl rfl (by decide) (r_callF (vs := [(.agg (R6 t sa sc aa ac)), (.func (.func 67) #[] #[(P6 b3 0), (P6 b2 0), (P6 b4 0)])]) Tryz.func66 nm66 bd66 rfl) (walk_c (fitF most) (fun s w => Blk w b3 #[.int .i64 s.1] 3 ∧ Blk w b2 #[.int .i64 most] 3 ∧ Blk w b4 #[.int .i64 s.2] 26) (fun x => x = b3 ∨ x = b4) (b4 + 1) _ w0 (fun b hb => by omega) (fun s w w' hI e => ⟨e.keep hI.1, e.keep hI.2.1, e.keep hI.2.2⟩) hf t.size t (Nat.le_refl _) (0, 0) _ _ (by have := B4.lt; omega) E ⟨B3, B2, B4⟩ ht0) ?_
 rintro _ w9 ⟨rfl, C9, B3', B2', B4'⟩
 replace B1 := C9.keep (by omega) B1
 replace E := E.step C9 (by intro x hx hm; omega)
 refine WpL_nil (Wp_seq_region ?_)
 refine qV (r_load (v := (I6 ((walkF (fitF most) t (0, 0)).2.2))) rfl flat26 (B4'.cell rfl)) ?_
 refine qA (I6 ((walkF (fitF most) t (0, 0)).2.2)) rfl ?_
 refine WpL_nil (Wp_ret ?_)
 refine fin_tmp Tryz.results39 (v := (.int .i64 ((walkF (fitF most) t (0, 0)).2.2))) rfl ?_
 exact ⟨rfl, E⟩
theorem check_c (w0 : World) (t : Re) (vs : List Value) (ht : ReAt w0 t vs) :
  Ret Tryz.prog 17 #[.agg vs.toArray] w0 fun v w => v = .int .i64 (fitsE t 40) ∧ Ext w0 w := by
 have ht0 := ht
 obtain ⟨sa, sc, aa, ac, rfl, hset, hlen, hargs⟩ := ht.form
 refine Ret_of Tryz.func17 rfl Tryz.ntmps17 (Nat.le_of_ble_eq_true rfl) ?_
 have E : Chg none1 w0 w0 := Chg.refl _ _
 refine Wp_seq_region ?_
 refine s_box (v := (.agg (R6 t sa sc aa ac))) (c := (R6 t sa sc aa ac)) (by decide) rfl rfl ?_
 intro b1 w1 N1
 have F1 := N1.ge E
 replace E := E.ext N1.ext
 have B1 := N1.blk
 refine qA (I6 0) rfl ?_
 refine WpL_nil (Wp_seq_region ?_)
 refine qV (r_loadAgg (vs := [(I6 t.kind), (.slice sa t.set.length sc), (.slice aa t.args.length ac), (I6 t.mn), (I6 t.mx), (.bool t.neg)]) rfl agg25 siz25 rfl (B1.cells rfl)) ?_
 refine WpL_enter rfl rfl (by decide) (r_callF (vs := [(.agg (R6 t sa sc aa ac)), (I6 40)]) Tryz.func39 nm39 bd39 rfl) (fits_c _ t _ (ReAt.ext E t ht0) 40) ?_
 rintro _ w9 ⟨rfl, X9⟩
 replace B1 := X9.keep B1
 replace E := E.ext X9
 refine qA (I6 (fitsE t 40)) rfl ?_
 refine WpL_nil (Wp_ret ?_)
 refine fin_tmp Tryz.results17 (v := (.int .i64 (fitsE t 40))) rfl ?_
 exact ⟨rfl, E⟩
end Go.Proofs
namespace Go.Proofs
open Go Go.Eng
set_option linter.unusedSectionVars false
variable [Drw]
set_option maxRecDepth 100000
theorem fitF_eq {most : Int} {n e : Int} (t : Re) (h0 : 0 ≤ n) (h1 : n ≤ 1000000) : fitF most (n, e) t = (decide ((if most < n + 1 then 2 else nodeE t) = 0), (n + 1, if most < n + 1 then 2 else nodeE t)) := by
 simp only [fitF]; rw [wI64 (by omega)]
mutual
theorem fits_yes {most : Int} (hm : most ≤ 1000000) : ∀ (t : Re) (n e : Int), 0 ≤ n → n + t.size ≤ most → okRe t → walkF (fitF most) t (n, e) = (true, (n + t.size, 0))
  | .mk k set args mn mx ng, n, e, h0, h1, hok => by
    simp only [Re.size] at h1 ⊢
    rw [walkF_eq, fitF_eq _ h0 (by omega)]
    have hn := okRe_node hok
    have hlt : ¬ most < n + 1 := by omega
    simp only [if_neg hlt, hn, decide_true, if_true, Re.args]
    have ha := okRe_args hok
    simp only [Re.args] at ha
    rw [fits_yess hm args (n + 1) 0 (by omega) (by omega) ha rfl]
    simp; omega
theorem fits_yess {most : Int} (hm : most ≤ 1000000) : ∀ (ts : List Re) (n e : Int), 0 ≤ n → n + Re.sizes ts ≤ most → okRes ts → e = 0 → walkFs (fitF most) ts (n, e) = (true, (n + Re.sizes ts, 0))
  | [], n, e, _, _, _, he => by simp [walkFs, Re.sizes, he]
  | t :: ts, n, e, h0, h1, hok, he => by
    simp only [Re.sizes] at h1 ⊢
    simp only [okRes] at hok
    rw [walkFs_cons, fits_yes hm t n e h0 (by omega) hok.1]
    simp only [if_true]
    rw [fits_yess hm ts _ _ (by omega) (by omega) hok.2 rfl]
    simp; omega
end
mutual
theorem fits_no {most : Int} (hm : most ≤ 1000000) : ∀ (t : Re) (n e : Int), 0 ≤ n → n ≤ most → (walkF (fitF most) t (n, e)).1 = true → okRe t ∧ n + t.size ≤ most ∧ (walkF (fitF most) t (n, e)).2 = (n + t.size, 0)
  | .mk k set args mn mx ng, n, e, h0, h1, h => by
    rw [walkF_eq, fitF_eq _ h0 (by omega)] at h ⊢
    by_cases hc : (if most < n + 1 then 2 else nodeE (.mk k set args mn mx ng)) = 0
    · have hlt : ¬ most < n + 1 := by intro h'; rw [if_pos h'] at hc; omega
      rw [if_neg hlt] at hc
      simp only [if_neg hlt, hc, decide_true, if_true, Re.args] at h ⊢
      obtain ⟨a, b, c⟩ := fits_nos hm args (n + 1) 0 (by omega) (by omega) h rfl
      refine ⟨by simp only [okRe]; exact ⟨hc, a⟩, by simp only [Re.size]; omega, by rw [c]; simp only [Re.size]; simp; omega⟩
    · simp [hc] at h
theorem fits_nos {most : Int} (hm : most ≤ 1000000) : ∀ (ts : List Re) (n e : Int), 0 ≤ n → n ≤ most → (walkFs (fitF most) ts (n, e)).1 = true → e = 0 → okRes ts ∧ n + Re.sizes ts ≤ most ∧ (walkFs (fitF most) ts (n, e)).2 = (n + Re.sizes ts, 0)
  | [], n, e, _, h1, _, he => by simp [walkFs, Re.sizes, okRes, he]; omega
  | t :: ts, n, e, h0, h1, h, he => by
    rw [walkFs_cons] at h ⊢
    by_cases hc : (walkF (fitF most) t (n, e)).1 = true
    · rw [if_pos hc] at h ⊢
      obtain ⟨a, b, c⟩ := fits_no hm t n e h0 h1 hc
      rw [c] at h ⊢
      obtain ⟨a', b', c'⟩ := fits_nos hm ts _ _ (by omega) b h rfl
      exact ⟨by simp only [okRes]; exact ⟨a, a'⟩, by simp only [Re.sizes]; omega, by rw [c']; simp only [Re.sizes]; simp; omega⟩
    · rw [if_neg hc] at h; simp at h
end
mutual
theorem fits_last {most : Int} : ∀ (t : Re) (s : Int × Int), (walkF (fitF most) t s).1 = decide ((walkF (fitF most) t s).2.2 = 0)
  | .mk k set args mn mx ng, s => by
    rw [walkF_eq]
    by_cases hc : (fitF most s (.mk k set args mn mx ng)).1 = true
    · rw [if_pos hc]
      exact fits_lasts args _ (by simpa [fitF] using hc)
    · rw [if_neg hc]
      have h2 : (fitF most s (.mk k set args mn mx ng)).1 = false := by simpa using hc
      simp only [fitF] at h2 ⊢
      exact h2.symm
theorem fits_lasts {most : Int} : ∀ (ts : List Re) (s : Int × Int), s.2 = 0 → (walkFs (fitF most) ts s).1 = decide ((walkFs (fitF most) ts s).2.2 = 0)
  | [], s, h => by simp [walkFs, h]
  | t :: ts, s, h => by
    rw [walkFs_cons]
    have := fits_last (most := most) t s
    by_cases hc : (walkF (fitF most) t s).1 = true
    · rw [if_pos hc]
      rw [hc] at this
      exact fits_lasts ts _ (by simpa using this.symm)
    · rw [if_neg hc]
      have h2 : (walkF (fitF most) t s).1 = false := by simpa using hc
      rw [h2] at this
      exact this
end
theorem fitsE_zero {t : Re} {most : Int} (h0 : 0 ≤ most) (hm : most ≤ 1000000) : fitsE t most = 0 ↔ okRe t ∧ (t.size : Int) ≤ most := by
 unfold fitsE
 constructor
 ·intro h
  have h1 := fits_last (most := most) t (0, 0)
  rw [h] at h1
  obtain ⟨a, b, _⟩ := fits_no hm t 0 0 (Int.le_refl 0) h0 (by simpa using h1)
  exact ⟨a, by omega⟩
 ·rintro ⟨a, b⟩
  rw [fits_yes hm t 0 0 (Int.le_refl 0) (by omega) a]
def checkP (t : Re) (text : List Int) : Int := if fitsE t 40 ≠ 0 then fitsE t 40 else if 24 < text.length then 2 else if (text.any fun r => !runeB r) = true then 1 else 0
def rowL (R : Rl) (i p : Nat) : List (Nat × Nat) := ((List.range p).filter (R i)).map fun j => (i, j)
def pairsL (R : Rl) (n : Nat) : List (Nat × Nat) := (List.range n).flatMap fun i => rowL R i 25
end Go.Proofs
