/- What the closing leans on: part 7. -/
import Derived.Shelf.Unicode.ValidAny
import Derived.Shelf.Strings.FieldsFuncGrows
import Derived.Shelf.Unicode.PredsPay
import Derived.Shelf.Unicode.CaseLaid
import Derived.Shelf.Strings.BuilderK
import Derived.Shelf.Strings.BuilderRune
import Derived.Shelf.Strings.Prefix
import Derived.Shelf.SlSortCmp.NoneTotal
import Derived.Ground.SlsfProg
import Derived.Shelf.Slices.In.SortNone
import Derived.Test.YtklgiidfompdpaaGreatDoorProg
import Derived.Test.YtklgiidfompdpaaGreatDoorXf
import Derived.Sort.Grow
import Derived.WalkMore
import Derived.Test.YtklgiidfompdpaaGreatDoorXc
import Derived.RangeFuncRecord
import Derived.RangeFuncIn
import Derived.RangeFuncLeaves
import Derived.RangeFuncCalls
namespace Go.Proofs
open Go.Shelf
def Tryz.laysValid_ren : Go.Shelf.Ren := ⟨fun | 196 => 105 | 259 => 149 | n => n, fun | 9 => 9 | 4 => 4 | 3 => 3 | 5 => 5 | 12 => 12 | 119 => 189 | 0 => 0 | 46 => 185 | 139 => 192 | 138 => 191 | 53 => 229 | n => n, fun | 3 => 0 | 4 => 1 | n => n⟩
theorem Tryz.laysValid : Go.Proofs.Lays.n196 Tryz.prog Tryz.laysValid_ren := {
  mixed := by kernel_rfl
  f196 := Tryz.func105.trans (congrArg some (by kernel_rfl))
  f259 := Tryz.func149.trans (congrArg some (by kernel_rfl))
  t0 := Tryz.underlying0
  a0 := Tryz.isAgg0
  z0 := Tryz.sizeOf0
  v0 := Tryz.zeroValue0
  t3 := Tryz.underlying3
  a3 := Tryz.isAgg3
  z3 := Tryz.sizeOf3
  v3 := Tryz.zeroValue3
  t4 := Tryz.underlying4
  a4 := Tryz.isAgg4
  z4 := Tryz.sizeOf4
  v4 := Tryz.zeroValue4
  t5 := Tryz.underlying5
  a5 := Tryz.isAgg5
  z5 := Tryz.sizeOf5
  v5 := Tryz.zeroValue5
  t9 := Tryz.underlying9
  a9 := Tryz.isAgg9
  z9 := Tryz.sizeOf9
  v9 := Tryz.zeroValue9
  t12 := Tryz.underlying12
  a12 := Tryz.isAgg12
  z12 := Tryz.sizeOf12
  v12 := Tryz.zeroValue12
  t46 := Tryz.underlying185
  a46 := Tryz.isAgg185
  z46 := Tryz.sizeOf185
  v46 := Tryz.zeroValue185
  t53 := Tryz.underlying229
  a53 := Tryz.isAgg229
  z53 := Tryz.sizeOf229
  v53 := Tryz.zeroValue229
  t119 := Tryz.underlying189
  a119 := Tryz.isAgg189
  z119 := Tryz.sizeOf189
  t138 := Tryz.underlying191
  a138 := Tryz.isAgg191
  z138 := Tryz.sizeOf191
  v138 := Tryz.zeroValue191
  t139 := Tryz.underlying192
  a139 := Tryz.isAgg192
  z139 := Tryz.sizeOf192
  v139 := Tryz.zeroValue192
  g3 := by kernel_rfl
  g4 := by kernel_rfl }
def Tryz.laysFF_ren : Go.Shelf.Ren := ⟨fun | 229 => 93 | n => n, fun | 9 => 9 | 40 => 114 | 31 => 23 | 152 => 170 | 3 => 3 | 0 => 0 | 4 => 4 | 21 => 21 | 154 => 172 | n => n, fun | n => n⟩
theorem Tryz.laysFF : Go.Proofs.Lays.n229 Tryz.prog Tryz.laysFF_ren := {
  mixed := by kernel_rfl
  f229 := Tryz.func93.trans (congrArg some (by kernel_rfl))
  t0 := Tryz.underlying0
  a0 := Tryz.isAgg0
  z0 := Tryz.sizeOf0
  v0 := Tryz.zeroValue0
  t3 := Tryz.underlying3
  a3 := Tryz.isAgg3
  z3 := Tryz.sizeOf3
  v3 := Tryz.zeroValue3
  t4 := Tryz.underlying4
  a4 := Tryz.isAgg4
  z4 := Tryz.sizeOf4
  v4 := Tryz.zeroValue4
  t9 := Tryz.underlying9
  a9 := Tryz.isAgg9
  z9 := Tryz.sizeOf9
  v9 := Tryz.zeroValue9
  t21 := Tryz.underlying21
  a21 := Tryz.isAgg21
  z21 := Tryz.sizeOf21
  v21 := Tryz.zeroValue21
  t31 := Tryz.underlying23
  a31 := Tryz.isAgg23
  z31 := Tryz.sizeOf23
  v31 := Tryz.zeroValue23
  t40 := Tryz.underlying114
  a40 := Tryz.isAgg114
  z40 := Tryz.sizeOf114
  v40 := Tryz.zeroValue114
  t152 := Tryz.underlying170
  a152 := Tryz.isAgg170
  z152 := Tryz.sizeOf170
  v152 := Tryz.zeroValue170
  t154 := Tryz.underlying172
  a154 := Tryz.isAgg172
  z154 := Tryz.sizeOf172
  v154 := Tryz.zeroValue172 }
def Tryz.laysLetter_ren : Go.Shelf.Ren := ⟨fun | 200 => 107 | 261 => 151 | 311 => 197 | 312 => 198 | n => n, fun | 21 => 21 | 4 => 4 | 51 => 193 | 5 => 5 | 119 => 189 | 0 => 0 | 141 => 195 | 196 => 233 | 193 => 230 | 3 => 3 | 198 => 236 | 49 => 234 | 194 => 231 | 201 => 239 | 226 => 277 | 46 => 185 | 227 => 278 | n => n, fun | 7 => 2 | 8 => 3 | n => n⟩
theorem Tryz.laysLetter : Go.Proofs.Lays.n200 Tryz.prog Tryz.laysLetter_ren := {
  mixed := by kernel_rfl
  f200 := Tryz.func107.trans (congrArg some (by kernel_rfl))
  f261 := Tryz.func151.trans (congrArg some (by kernel_rfl))
  f311 := Tryz.func197.trans (congrArg some (by kernel_rfl))
  f312 := Tryz.func198.trans (congrArg some (by kernel_rfl))
  t0 := Tryz.underlying0
  a0 := Tryz.isAgg0
  z0 := Tryz.sizeOf0
  v0 := Tryz.zeroValue0
  t3 := Tryz.underlying3
  a3 := Tryz.isAgg3
  z3 := Tryz.sizeOf3
  v3 := Tryz.zeroValue3
  t4 := Tryz.underlying4
  a4 := Tryz.isAgg4
  z4 := Tryz.sizeOf4
  v4 := Tryz.zeroValue4
  t5 := Tryz.underlying5
  a5 := Tryz.isAgg5
  z5 := Tryz.sizeOf5
  v5 := Tryz.zeroValue5
  t21 := Tryz.underlying21
  a21 := Tryz.isAgg21
  z21 := Tryz.sizeOf21
  v21 := Tryz.zeroValue21
  t46 := Tryz.underlying185
  a46 := Tryz.isAgg185
  z46 := Tryz.sizeOf185
  v46 := Tryz.zeroValue185
  t49 := Tryz.underlying234
  a49 := Tryz.isAgg234
  z49 := Tryz.sizeOf234
  v49 := Tryz.zeroValue234
  t51 := Tryz.underlying193
  a51 := Tryz.isAgg193
  z51 := Tryz.sizeOf193
  v51 := Tryz.zeroValue193
  t119 := Tryz.underlying189
  a119 := Tryz.isAgg189
  z119 := Tryz.sizeOf189
  t141 := Tryz.underlying195
  a141 := Tryz.isAgg195
  z141 := Tryz.sizeOf195
  v141 := Tryz.zeroValue195
  t193 := Tryz.underlying230
  a193 := Tryz.isAgg230
  z193 := Tryz.sizeOf230
  v193 := Tryz.zeroValue230
  t194 := Tryz.underlying231
  a194 := Tryz.isAgg231
  z194 := Tryz.sizeOf231
  v194 := Tryz.zeroValue231
  t196 := Tryz.underlying233
  a196 := Tryz.isAgg233
  z196 := Tryz.sizeOf233
  v196 := Tryz.zeroValue233
  t198 := Tryz.underlying236
  a198 := Tryz.isAgg236
  z198 := Tryz.sizeOf236
  v198 := Tryz.zeroValue236
  t201 := Tryz.underlying239
  a201 := Tryz.isAgg239
  z201 := Tryz.sizeOf239
  v201 := Tryz.zeroValue239
  t226 := Tryz.underlying277
  a226 := Tryz.isAgg277
  z226 := Tryz.sizeOf277
  v226 := Tryz.zeroValue277
  t227 := Tryz.underlying278
  a227 := Tryz.isAgg278
  z227 := Tryz.sizeOf278
  v227 := Tryz.zeroValue278
  g7 := by kernel_rfl
  g8 := by kernel_rfl }
def Tryz.laysDigit_ren : Go.Shelf.Ren := ⟨fun | 198 => 108 | 261 => 151 | 311 => 197 | 312 => 198 | n => n, fun | 21 => 21 | 4 => 4 | 141 => 195 | 0 => 0 | 196 => 233 | 193 => 230 | 3 => 3 | 51 => 193 | 198 => 236 | 49 => 234 | 194 => 231 | 201 => 239 | 226 => 277 | 46 => 185 | 227 => 278 | n => n, fun | 5 => 4 | n => n⟩
theorem Tryz.laysDigit : Go.Proofs.Lays.n198 Tryz.prog Tryz.laysDigit_ren := {
  mixed := by kernel_rfl
  f198 := Tryz.func108.trans (congrArg some (by kernel_rfl))
  f261 := Tryz.func151.trans (congrArg some (by kernel_rfl))
  f311 := Tryz.func197.trans (congrArg some (by kernel_rfl))
  f312 := Tryz.func198.trans (congrArg some (by kernel_rfl))
  t0 := Tryz.underlying0
  a0 := Tryz.isAgg0
  z0 := Tryz.sizeOf0
  v0 := Tryz.zeroValue0
  t3 := Tryz.underlying3
  a3 := Tryz.isAgg3
  z3 := Tryz.sizeOf3
  v3 := Tryz.zeroValue3
  t4 := Tryz.underlying4
  a4 := Tryz.isAgg4
  z4 := Tryz.sizeOf4
  v4 := Tryz.zeroValue4
  t21 := Tryz.underlying21
  a21 := Tryz.isAgg21
  z21 := Tryz.sizeOf21
  v21 := Tryz.zeroValue21
  t46 := Tryz.underlying185
  a46 := Tryz.isAgg185
  z46 := Tryz.sizeOf185
  v46 := Tryz.zeroValue185
  t49 := Tryz.underlying234
  a49 := Tryz.isAgg234
  z49 := Tryz.sizeOf234
  v49 := Tryz.zeroValue234
  t51 := Tryz.underlying193
  a51 := Tryz.isAgg193
  z51 := Tryz.sizeOf193
  v51 := Tryz.zeroValue193
  t141 := Tryz.underlying195
  a141 := Tryz.isAgg195
  z141 := Tryz.sizeOf195
  v141 := Tryz.zeroValue195
  t193 := Tryz.underlying230
  a193 := Tryz.isAgg230
  z193 := Tryz.sizeOf230
  v193 := Tryz.zeroValue230
  t194 := Tryz.underlying231
  a194 := Tryz.isAgg231
  z194 := Tryz.sizeOf231
  v194 := Tryz.zeroValue231
  t196 := Tryz.underlying233
  a196 := Tryz.isAgg233
  z196 := Tryz.sizeOf233
  v196 := Tryz.zeroValue233
  t198 := Tryz.underlying236
  a198 := Tryz.isAgg236
  z198 := Tryz.sizeOf236
  v198 := Tryz.zeroValue236
  t201 := Tryz.underlying239
  a201 := Tryz.isAgg239
  z201 := Tryz.sizeOf239
  v201 := Tryz.zeroValue239
  t226 := Tryz.underlying277
  a226 := Tryz.isAgg277
  z226 := Tryz.sizeOf277
  v226 := Tryz.zeroValue277
  t227 := Tryz.underlying278
  a227 := Tryz.isAgg278
  z227 := Tryz.sizeOf278
  v227 := Tryz.zeroValue278
  g5 := by kernel_rfl }
def Tryz.laysLower_ren : Go.Shelf.Ren := ⟨fun | 204 => 109 | 262 => 152 | 313 => 199 | 274 => 247 | 275 => 248 | n => n, fun | 21 => 21 | 4 => 4 | 3 => 3 | 162 => 243 | 203 => 241 | 160 => 279 | 46 => 185 | 0 => 0 | 208 => 297 | 51 => 193 | 206 => 295 | n => n, fun | 13 => 5 | n => n⟩
theorem Tryz.laysLower : Go.Proofs.Lays.n204 Tryz.prog Tryz.laysLower_ren := {
  mixed := by kernel_rfl
  f204 := Tryz.func109.trans (congrArg some (by kernel_rfl))
  f262 := Tryz.func152.trans (congrArg some (by kernel_rfl))
  f274 := Tryz.func247.trans (congrArg some (by kernel_rfl))
  f275 := Tryz.func248.trans (congrArg some (by kernel_rfl))
  f313 := Tryz.func199.trans (congrArg some (by kernel_rfl))
  t0 := Tryz.underlying0
  a0 := Tryz.isAgg0
  z0 := Tryz.sizeOf0
  v0 := Tryz.zeroValue0
  t3 := Tryz.underlying3
  a3 := Tryz.isAgg3
  z3 := Tryz.sizeOf3
  v3 := Tryz.zeroValue3
  t4 := Tryz.underlying4
  a4 := Tryz.isAgg4
  z4 := Tryz.sizeOf4
  v4 := Tryz.zeroValue4
  t21 := Tryz.underlying21
  a21 := Tryz.isAgg21
  z21 := Tryz.sizeOf21
  v21 := Tryz.zeroValue21
  t46 := Tryz.underlying185
  a46 := Tryz.isAgg185
  z46 := Tryz.sizeOf185
  v46 := Tryz.zeroValue185
  t51 := Tryz.underlying193
  a51 := Tryz.isAgg193
  z51 := Tryz.sizeOf193
  v51 := Tryz.zeroValue193
  t160 := Tryz.underlying279
  a160 := Tryz.isAgg279
  z160 := Tryz.sizeOf279
  v160 := Tryz.zeroValue279
  t162 := Tryz.underlying243
  a162 := Tryz.isAgg243
  z162 := Tryz.sizeOf243
  v162 := Tryz.zeroValue243
  t203 := Tryz.underlying241
  a203 := Tryz.isAgg241
  z203 := Tryz.sizeOf241
  v203 := Tryz.zeroValue241
  t206 := Tryz.underlying295
  a206 := Tryz.isAgg295
  z206 := Tryz.sizeOf295
  v206 := Tryz.zeroValue295
  t208 := Tryz.underlying297
  a208 := Tryz.isAgg297
  z208 := Tryz.sizeOf297
  v208 := Tryz.zeroValue297
  g13 := by kernel_rfl }
def Tryz.laysBS_ren : Go.Shelf.Ren := ⟨fun | 169 => 143 | n => n, fun | 70 => 173 | 9 => 9 | 0 => 0 | 72 => 176 | 37 => 174 | 127 => 220 | 3 => 3 | 5 => 5 | n => n, fun | n => n⟩
theorem Tryz.laysBS : Go.Proofs.Lays.n169 Tryz.prog Tryz.laysBS_ren := {
  mixed := by kernel_rfl
  f169 := Tryz.func143.trans (congrArg some (by kernel_rfl))
  t0 := Tryz.underlying0
  a0 := Tryz.isAgg0
  z0 := Tryz.sizeOf0
  v0 := Tryz.zeroValue0
  t3 := Tryz.underlying3
  a3 := Tryz.isAgg3
  z3 := Tryz.sizeOf3
  v3 := Tryz.zeroValue3
  t9 := Tryz.underlying9
  a9 := Tryz.isAgg9
  z9 := Tryz.sizeOf9
  v9 := Tryz.zeroValue9
  t37 := Tryz.underlying174
  a37 := Tryz.isAgg174
  z37 := Tryz.sizeOf174
  v37 := Tryz.zeroValue174
  t70 := Tryz.underlying173
  a70 := Tryz.isAgg173
  z70 := Tryz.sizeOf173
  v70 := Tryz.zeroValue173
  t72 := Tryz.underlying176
  a72 := Tryz.isAgg176
  z72 := Tryz.sizeOf176
  v72 := Tryz.zeroValue176
  t127 := Tryz.underlying220
  a127 := Tryz.isAgg220
  z127 := Tryz.sizeOf220
  v127 := Tryz.zeroValue220 }
def Tryz.laysHP_ren : Go.Shelf.Ren := ⟨fun | 99 => 125 | 206 => 170 | n => n, fun | 9 => 9 | 4 => 4 | 3 => 3 | n => n, fun | n => n⟩
theorem Tryz.laysHP : Go.Proofs.Lays.n99 Tryz.prog Tryz.laysHP_ren := {
  mixed := by kernel_rfl
  f99 := Tryz.func125.trans (congrArg some (by kernel_rfl))
  f206 := Tryz.func170.trans (congrArg some (by kernel_rfl))
  t3 := Tryz.underlying3
  a3 := Tryz.isAgg3
  z3 := Tryz.sizeOf3
  v3 := Tryz.zeroValue3
  t4 := Tryz.underlying4
  a4 := Tryz.isAgg4
  z4 := Tryz.sizeOf4
  v4 := Tryz.zeroValue4
  t9 := Tryz.underlying9
  a9 := Tryz.isAgg9
  z9 := Tryz.sizeOf9
  v9 := Tryz.zeroValue9 }
def Tryz.sortKeys_ren : Go.Shelf.Ren := ⟨fun | 6 => 135 | 15 => 146 | 14 => 181 | 28 => 193 | 29 => 194 | 20 => 230 | 21 => 231 | 22 => 232 | 23 => 233 | 24 => 234 | 25 => 235 | 26 => 236 | 27 => 237 | 46 => 261 | 47 => 241 | 48 => 242 | 49 => 262 | 50 => 263 | 57 => 274 | n => n, fun | 22 => 48 | 24 => 28 | 25 => 129 | 3 => 3 | 39 => 185 | 0 => 0 | 53 => 193 | 55 => 229 | 4 => 4 | 46 => 223 | 45 => 222 | 50 => 139 | 5 => 5 | 9 => 9 | 66 => 270 | 70 => 274 | 76 => 291 | 77 => 292 | n => n, fun | n => n⟩
theorem Tryz.sortKeys : Go.Proofs.SlLaysF0.n6 Tryz.prog Tryz.sortKeys_ren := {
  mixed := by kernel_rfl
  f6 := ⟨Tryz.f135.name, by decide, Tryz.func135.trans (congrArg some (by kernel_rfl))⟩
  f14 := ⟨Tryz.f181.name, by decide, Tryz.func181.trans (congrArg some (by kernel_rfl))⟩
  f15 := Tryz.func146.trans (congrArg some (by kernel_rfl))
  f20 := ⟨Tryz.f230.name, by decide, Tryz.func230.trans (congrArg some (by kernel_rfl))⟩
  f21 := ⟨Tryz.f231.name, by decide, Tryz.func231.trans (congrArg some (by kernel_rfl))⟩
  f22 := ⟨Tryz.f232.name, by decide, Tryz.func232.trans (congrArg some (by kernel_rfl))⟩
  f23 := ⟨Tryz.f233.name, by decide, Tryz.func233.trans (congrArg some (by kernel_rfl))⟩
  f24 := ⟨Tryz.f234.name, by decide, Tryz.func234.trans (congrArg some (by kernel_rfl))⟩
  f25 := ⟨Tryz.f235.name, by decide, Tryz.func235.trans (congrArg some (by kernel_rfl))⟩
  f26 := ⟨Tryz.f236.name, by decide, Tryz.func236.trans (congrArg some (by kernel_rfl))⟩
  f27 := ⟨Tryz.f237.name, by decide, Tryz.func237.trans (congrArg some (by kernel_rfl))⟩
  f28 := Tryz.func193.trans (congrArg some (by kernel_rfl))
  f29 := Tryz.func194.trans (congrArg some (by kernel_rfl))
  f46 := ⟨Tryz.f261.name, by decide, Tryz.func261.trans (congrArg some (by kernel_rfl))⟩
  f47 := Tryz.func241.trans (congrArg some (by kernel_rfl))
  f48 := Tryz.func242.trans (congrArg some (by kernel_rfl))
  f49 := ⟨Tryz.f262.name, by decide, Tryz.func262.trans (congrArg some (by kernel_rfl))⟩
  f50 := ⟨Tryz.f263.name, by decide, Tryz.func263.trans (congrArg some (by kernel_rfl))⟩
  f57 := ⟨Tryz.f274.name, by decide, Tryz.func274.trans (congrArg some (by kernel_rfl))⟩
  t0 := Tryz.underlying0
  a0 := Tryz.isAgg0
  z0 := Tryz.sizeOf0
  v0 := Tryz.zeroValue0
  t3 := Tryz.underlying3
  a3 := Tryz.isAgg3
  z3 := Tryz.sizeOf3
  v3 := Tryz.zeroValue3
  t4 := Tryz.underlying4
  a4 := Tryz.isAgg4
  z4 := Tryz.sizeOf4
  v4 := Tryz.zeroValue4
  t5 := Tryz.underlying5
  a5 := Tryz.isAgg5
  z5 := Tryz.sizeOf5
  v5 := Tryz.zeroValue5
  t9 := Tryz.underlying9
  a9 := Tryz.isAgg9
  z9 := Tryz.sizeOf9
  v9 := Tryz.zeroValue9
  t22 := Tryz.underlying48
  a22 := Tryz.isAgg48
  z22 := Tryz.sizeOf48
  v22 := Tryz.zeroValue48
  t25 := Tryz.underlying129
  a25 := Tryz.isAgg129
  z25 := Tryz.sizeOf129
  v25 := Tryz.zeroValue129
  t39 := Tryz.underlying185
  a39 := Tryz.isAgg185
  z39 := Tryz.sizeOf185
  v39 := Tryz.zeroValue185
  t45 := Tryz.underlying222
  a45 := Tryz.isAgg222
  z45 := Tryz.sizeOf222
  v45 := Tryz.zeroValue222
  t46 := Tryz.underlying223
  a46 := Tryz.isAgg223
  z46 := Tryz.sizeOf223
  v46 := Tryz.zeroValue223
  t50 := Tryz.underlying139
  a50 := Tryz.isAgg139
  z50 := Tryz.sizeOf139
  v50 := Tryz.zeroValue139
  t53 := Tryz.underlying193
  a53 := Tryz.isAgg193
  z53 := Tryz.sizeOf193
  v53 := Tryz.zeroValue193
  t55 := Tryz.underlying229
  a55 := Tryz.isAgg229
  z55 := Tryz.sizeOf229
  v55 := Tryz.zeroValue229
  t66 := Tryz.underlying270
  a66 := Tryz.isAgg270
  z66 := Tryz.sizeOf270
  v66 := Tryz.zeroValue270
  t70 := Tryz.underlying274
  a70 := Tryz.isAgg274
  z70 := Tryz.sizeOf274
  v70 := Tryz.zeroValue274
  t76 := Tryz.underlying291
  a76 := Tryz.isAgg291
  z76 := Tryz.sizeOf291
  v76 := Tryz.zeroValue291
  t77 := Tryz.underlying292
  a77 := Tryz.isAgg292
  z77 := Tryz.sizeOf292
  v77 := Tryz.zeroValue292 }
def Tryz.sortPosts_ren : Go.Shelf.Ren := ⟨fun | 6 => 127 | 15 => 146 | 14 => 172 | 28 => 193 | 29 => 194 | 20 => 220 | 21 => 221 | 22 => 222 | 23 => 223 | 24 => 224 | 25 => 225 | 26 => 226 | 27 => 227 | 46 => 258 | 47 => 241 | 48 => 242 | 49 => 259 | 50 => 260 | 57 => 273 | n => n, fun | 22 => 94 | 24 => 106 | 25 => 163 | 3 => 3 | 39 => 185 | 0 => 0 | 53 => 193 | 55 => 229 | 4 => 4 | 46 => 223 | 45 => 222 | 50 => 139 | 5 => 5 | 9 => 9 | 66 => 270 | 70 => 274 | 76 => 291 | 77 => 292 | n => n, fun | n => n⟩
theorem Tryz.sortPosts : Go.Proofs.SlLaysF0.n6 Tryz.prog Tryz.sortPosts_ren := {
  mixed := by kernel_rfl
  f6 := ⟨Tryz.f127.name, by decide, Tryz.func127.trans (congrArg some (by kernel_rfl))⟩
  f14 := ⟨Tryz.f172.name, by decide, Tryz.func172.trans (congrArg some (by kernel_rfl))⟩
  f15 := Tryz.func146.trans (congrArg some (by kernel_rfl))
  f20 := ⟨Tryz.f220.name, by decide, Tryz.func220.trans (congrArg some (by kernel_rfl))⟩
  f21 := ⟨Tryz.f221.name, by decide, Tryz.func221.trans (congrArg some (by kernel_rfl))⟩
  f22 := ⟨Tryz.f222.name, by decide, Tryz.func222.trans (congrArg some (by kernel_rfl))⟩
  f23 := ⟨Tryz.f223.name, by decide, Tryz.func223.trans (congrArg some (by kernel_rfl))⟩
  f24 := ⟨Tryz.f224.name, by decide, Tryz.func224.trans (congrArg some (by kernel_rfl))⟩
  f25 := ⟨Tryz.f225.name, by decide, Tryz.func225.trans (congrArg some (by kernel_rfl))⟩
  f26 := ⟨Tryz.f226.name, by decide, Tryz.func226.trans (congrArg some (by kernel_rfl))⟩
  f27 := ⟨Tryz.f227.name, by decide, Tryz.func227.trans (congrArg some (by kernel_rfl))⟩
  f28 := Tryz.func193.trans (congrArg some (by kernel_rfl))
  f29 := Tryz.func194.trans (congrArg some (by kernel_rfl))
  f46 := ⟨Tryz.f258.name, by decide, Tryz.func258.trans (congrArg some (by kernel_rfl))⟩
  f47 := Tryz.func241.trans (congrArg some (by kernel_rfl))
  f48 := Tryz.func242.trans (congrArg some (by kernel_rfl))
  f49 := ⟨Tryz.f259.name, by decide, Tryz.func259.trans (congrArg some (by kernel_rfl))⟩
  f50 := ⟨Tryz.f260.name, by decide, Tryz.func260.trans (congrArg some (by kernel_rfl))⟩
  f57 := ⟨Tryz.f273.name, by decide, Tryz.func273.trans (congrArg some (by kernel_rfl))⟩
  t0 := Tryz.underlying0
  a0 := Tryz.isAgg0
  z0 := Tryz.sizeOf0
  v0 := Tryz.zeroValue0
  t3 := Tryz.underlying3
  a3 := Tryz.isAgg3
  z3 := Tryz.sizeOf3
  v3 := Tryz.zeroValue3
  t4 := Tryz.underlying4
  a4 := Tryz.isAgg4
  z4 := Tryz.sizeOf4
  v4 := Tryz.zeroValue4
  t5 := Tryz.underlying5
  a5 := Tryz.isAgg5
  z5 := Tryz.sizeOf5
  v5 := Tryz.zeroValue5
  t9 := Tryz.underlying9
  a9 := Tryz.isAgg9
  z9 := Tryz.sizeOf9
  v9 := Tryz.zeroValue9
  t22 := Tryz.underlying94
  a22 := Tryz.isAgg94
  z22 := Tryz.sizeOf94
  v22 := Tryz.zeroValue94
  t25 := Tryz.underlying163
  a25 := Tryz.isAgg163
  z25 := Tryz.sizeOf163
  v25 := Tryz.zeroValue163
  t39 := Tryz.underlying185
  a39 := Tryz.isAgg185
  z39 := Tryz.sizeOf185
  v39 := Tryz.zeroValue185
  t45 := Tryz.underlying222
  a45 := Tryz.isAgg222
  z45 := Tryz.sizeOf222
  v45 := Tryz.zeroValue222
  t46 := Tryz.underlying223
  a46 := Tryz.isAgg223
  z46 := Tryz.sizeOf223
  v46 := Tryz.zeroValue223
  t50 := Tryz.underlying139
  a50 := Tryz.isAgg139
  z50 := Tryz.sizeOf139
  v50 := Tryz.zeroValue139
  t53 := Tryz.underlying193
  a53 := Tryz.isAgg193
  z53 := Tryz.sizeOf193
  v53 := Tryz.zeroValue193
  t55 := Tryz.underlying229
  a55 := Tryz.isAgg229
  z55 := Tryz.sizeOf229
  v55 := Tryz.zeroValue229
  t66 := Tryz.underlying270
  a66 := Tryz.isAgg270
  z66 := Tryz.sizeOf270
  v66 := Tryz.zeroValue270
  t70 := Tryz.underlying274
  a70 := Tryz.isAgg274
  z70 := Tryz.sizeOf274
  v70 := Tryz.zeroValue274
  t76 := Tryz.underlying291
  a76 := Tryz.isAgg291
  z76 := Tryz.sizeOf291
  v76 := Tryz.zeroValue291
  t77 := Tryz.underlying292
  a77 := Tryz.isAgg292
  z77 := Tryz.sizeOf292
  v77 := Tryz.zeroValue292 }
def Tryz.laysSortS_ren : Go.Shelf.Ren := ⟨fun | 190 => 97 | 125 => 146 | 258 => 145 | 128 => 193 | 129 => 194 | 302 => 184 | 303 => 185 | 304 => 186 | 305 => 187 | 306 => 188 | 307 => 189 | 308 => 190 | 309 => 191 | 310 => 192 | 333 => 240 | 329 => 241 | 330 => 242 | 334 => 243 | 335 => 244 | 336 => 245 | 344 => 264 | n => n, fun | 31 => 23 | 9 => 9 | 3 => 3 | 46 => 185 | 0 => 0 | 51 => 193 | 53 => 229 | 4 => 4 | 183 => 223 | 182 => 222 | 131 => 139 | 5 => 5 | 218 => 270 | 222 => 274 | 228 => 291 | 229 => 292 | n => n, fun | n => n⟩
theorem Tryz.laysSortS : Go.Proofs.Lays.n190 Tryz.prog Tryz.laysSortS_ren := {
  mixed := by kernel_rfl
  f125 := Tryz.func146.trans (congrArg some (by kernel_rfl))
  f128 := Tryz.func193.trans (congrArg some (by kernel_rfl))
  f129 := Tryz.func194.trans (congrArg some (by kernel_rfl))
  f190 := Tryz.func97.trans (congrArg some (by kernel_rfl))
  f258 := Tryz.func145.trans (congrArg some (by kernel_rfl))
  f302 := Tryz.func184.trans (congrArg some (by kernel_rfl))
  f303 := Tryz.func185.trans (congrArg some (by kernel_rfl))
  f304 := Tryz.func186.trans (congrArg some (by kernel_rfl))
  f305 := Tryz.func187.trans (congrArg some (by kernel_rfl))
  f306 := Tryz.func188.trans (congrArg some (by kernel_rfl))
  f307 := Tryz.func189.trans (congrArg some (by kernel_rfl))
  f308 := Tryz.func190.trans (congrArg some (by kernel_rfl))
  f309 := Tryz.func191.trans (congrArg some (by kernel_rfl))
  f310 := Tryz.func192.trans (congrArg some (by kernel_rfl))
  f329 := Tryz.func241.trans (congrArg some (by kernel_rfl))
  f330 := Tryz.func242.trans (congrArg some (by kernel_rfl))
  f333 := Tryz.func240.trans (congrArg some (by kernel_rfl))
  f334 := Tryz.func243.trans (congrArg some (by kernel_rfl))
  f335 := Tryz.func244.trans (congrArg some (by kernel_rfl))
  f336 := Tryz.func245.trans (congrArg some (by kernel_rfl))
  f344 := Tryz.func264.trans (congrArg some (by kernel_rfl))
  t0 := Tryz.underlying0
  a0 := Tryz.isAgg0
  z0 := Tryz.sizeOf0
  v0 := Tryz.zeroValue0
  t3 := Tryz.underlying3
  a3 := Tryz.isAgg3
  z3 := Tryz.sizeOf3
  v3 := Tryz.zeroValue3
  t4 := Tryz.underlying4
  a4 := Tryz.isAgg4
  z4 := Tryz.sizeOf4
  v4 := Tryz.zeroValue4
  t5 := Tryz.underlying5
  a5 := Tryz.isAgg5
  z5 := Tryz.sizeOf5
  v5 := Tryz.zeroValue5
  t9 := Tryz.underlying9
  a9 := Tryz.isAgg9
  z9 := Tryz.sizeOf9
  v9 := Tryz.zeroValue9
  t31 := Tryz.underlying23
  a31 := Tryz.isAgg23
  z31 := Tryz.sizeOf23
  v31 := Tryz.zeroValue23
  t46 := Tryz.underlying185
  a46 := Tryz.isAgg185
  z46 := Tryz.sizeOf185
  v46 := Tryz.zeroValue185
  t51 := Tryz.underlying193
  a51 := Tryz.isAgg193
  z51 := Tryz.sizeOf193
  v51 := Tryz.zeroValue193
  t53 := Tryz.underlying229
  a53 := Tryz.isAgg229
  z53 := Tryz.sizeOf229
  v53 := Tryz.zeroValue229
  t131 := Tryz.underlying139
  a131 := Tryz.isAgg139
  z131 := Tryz.sizeOf139
  v131 := Tryz.zeroValue139
  t182 := Tryz.underlying222
  a182 := Tryz.isAgg222
  z182 := Tryz.sizeOf222
  v182 := Tryz.zeroValue222
  t183 := Tryz.underlying223
  a183 := Tryz.isAgg223
  z183 := Tryz.sizeOf223
  v183 := Tryz.zeroValue223
  t218 := Tryz.underlying270
  a218 := Tryz.isAgg270
  z218 := Tryz.sizeOf270
  v218 := Tryz.zeroValue270
  t222 := Tryz.underlying274
  a222 := Tryz.isAgg274
  z222 := Tryz.sizeOf274
  v222 := Tryz.zeroValue274
  t228 := Tryz.underlying291
  a228 := Tryz.isAgg291
  z228 := Tryz.sizeOf291
  v228 := Tryz.zeroValue291
  t229 := Tryz.underlying292
  a229 := Tryz.isAgg292
  z229 := Tryz.sizeOf292
  v229 := Tryz.zeroValue292 }
def Tryz.laysSortI_ren : Go.Shelf.Ren := ⟨fun | 189 => 126 | 125 => 146 | 257 => 171 | 128 => 193 | 129 => 194 | 294 => 211 | 295 => 212 | 296 => 213 | 297 => 214 | 298 => 215 | 299 => 216 | 216 => 217 | 300 => 218 | 301 => 219 | 328 => 254 | 329 => 241 | 330 => 242 | 331 => 255 | 332 => 256 | 215 => 257 | 343 => 272 | n => n, fun | 28 => 99 | 3 => 3 | 46 => 185 | 0 => 0 | 51 => 193 | 53 => 229 | 4 => 4 | 183 => 223 | 182 => 222 | 131 => 139 | 5 => 5 | 9 => 9 | 218 => 270 | 222 => 274 | 228 => 291 | 229 => 292 | n => n, fun | n => n⟩
theorem Tryz.laysSortI : Go.Proofs.Lays.n189 Tryz.prog Tryz.laysSortI_ren := {
  mixed := by kernel_rfl
  f125 := Tryz.func146.trans (congrArg some (by kernel_rfl))
  f128 := Tryz.func193.trans (congrArg some (by kernel_rfl))
  f129 := Tryz.func194.trans (congrArg some (by kernel_rfl))
  f189 := Tryz.func126.trans (congrArg some (by kernel_rfl))
  f215 := Tryz.func257.trans (congrArg some (by kernel_rfl))
  f216 := Tryz.func217.trans (congrArg some (by kernel_rfl))
  f257 := Tryz.func171.trans (congrArg some (by kernel_rfl))
  f294 := Tryz.func211.trans (congrArg some (by kernel_rfl))
  f295 := Tryz.func212.trans (congrArg some (by kernel_rfl))
  f296 := Tryz.func213.trans (congrArg some (by kernel_rfl))
  f297 := Tryz.func214.trans (congrArg some (by kernel_rfl))
  f298 := Tryz.func215.trans (congrArg some (by kernel_rfl))
  f299 := Tryz.func216.trans (congrArg some (by kernel_rfl))
  f300 := Tryz.func218.trans (congrArg some (by kernel_rfl))
  f301 := Tryz.func219.trans (congrArg some (by kernel_rfl))
  f328 := Tryz.func254.trans (congrArg some (by kernel_rfl))
  f329 := Tryz.func241.trans (congrArg some (by kernel_rfl))
  f330 := Tryz.func242.trans (congrArg some (by kernel_rfl))
  f331 := Tryz.func255.trans (congrArg some (by kernel_rfl))
  f332 := Tryz.func256.trans (congrArg some (by kernel_rfl))
  f343 := Tryz.func272.trans (congrArg some (by kernel_rfl))
  t0 := Tryz.underlying0
  a0 := Tryz.isAgg0
  z0 := Tryz.sizeOf0
  v0 := Tryz.zeroValue0
  t3 := Tryz.underlying3
  a3 := Tryz.isAgg3
  z3 := Tryz.sizeOf3
  v3 := Tryz.zeroValue3
  t4 := Tryz.underlying4
  a4 := Tryz.isAgg4
  z4 := Tryz.sizeOf4
  v4 := Tryz.zeroValue4
  t5 := Tryz.underlying5
  a5 := Tryz.isAgg5
  z5 := Tryz.sizeOf5
  v5 := Tryz.zeroValue5
  t9 := Tryz.underlying9
  a9 := Tryz.isAgg9
  z9 := Tryz.sizeOf9
  v9 := Tryz.zeroValue9
  t28 := Tryz.underlying99
  a28 := Tryz.isAgg99
  z28 := Tryz.sizeOf99
  v28 := Tryz.zeroValue99
  t46 := Tryz.underlying185
  a46 := Tryz.isAgg185
  z46 := Tryz.sizeOf185
  v46 := Tryz.zeroValue185
  t51 := Tryz.underlying193
  a51 := Tryz.isAgg193
  z51 := Tryz.sizeOf193
  v51 := Tryz.zeroValue193
  t53 := Tryz.underlying229
  a53 := Tryz.isAgg229
  z53 := Tryz.sizeOf229
  v53 := Tryz.zeroValue229
  t131 := Tryz.underlying139
  a131 := Tryz.isAgg139
  z131 := Tryz.sizeOf139
  v131 := Tryz.zeroValue139
  t182 := Tryz.underlying222
  a182 := Tryz.isAgg222
  z182 := Tryz.sizeOf222
  v182 := Tryz.zeroValue222
  t183 := Tryz.underlying223
  a183 := Tryz.isAgg223
  z183 := Tryz.sizeOf223
  v183 := Tryz.zeroValue223
  t218 := Tryz.underlying270
  a218 := Tryz.isAgg270
  z218 := Tryz.sizeOf270
  v218 := Tryz.zeroValue270
  t222 := Tryz.underlying274
  a222 := Tryz.isAgg274
  z222 := Tryz.sizeOf274
  v222 := Tryz.zeroValue274
  t228 := Tryz.underlying291
  a228 := Tryz.isAgg291
  z228 := Tryz.sizeOf291
  v228 := Tryz.zeroValue291
  t229 := Tryz.underlying292
  a229 := Tryz.isAgg292
  z229 := Tryz.sizeOf292
  v229 := Tryz.zeroValue292 }
end Go.Proofs
namespace Go.Proofs
open Go.Shelf
namespace YtklgiidfompdpaaGreatDoor
open Go Go.Sl Go.Gv Go.Kv Go.Sort Go.Po
set_option maxRecDepth 100000
theorem grow2 (w : World) (o o' : Obj) : (w.alloc o).alloc o' = grow w #[o, o'] := by rw [alloc_eq_grow, alloc_eq_grow, grow_grow]; rfl
theorem before_exact (a1 a2 b1 b2 : Int) (w : World) : Calls Tryz.prog 137 #[.agg #[.int .i64 a1, .int .i64 a2], .agg #[.int .i64 b1, .int .i64 b2]] w fun e w' => e = .returned (.bool (before ⟨a1, a2⟩ ⟨b1, b2⟩)) ∧ ∃ os, w' = grow w os := by
  by_cases h : a1 = b1
  · go_enter Tryz.func137, Tryz.ntmps137
    subst h
    go_wp2
    go_ret
    exact ⟨by simp [before], _, grow2 ..⟩
  · go_enter Tryz.func137, Tryz.ntmps137
    go_wp2
    go_ret
    exact ⟨by simp [before, h], _, grow2 ..⟩
/-- The world behind a call: grown, with the boxes as they were. -/
def Grw (w w' : World) : Prop := ∃ os, w' = grow w os
def Aft (a1 a2 b1 b2 : Int) (w w' : World) : Prop := Grw w w' ∧ w'.cell? ⟨w.heap.size, 0, none⟩ = some (.int .i64 a1) ∧ w'.cell? ⟨w.heap.size, 1, none⟩ = some (.int .i64 a2) ∧ w'.cell? ⟨w.heap.size + 1, 0, none⟩ = some (.int .i64 b1) ∧ w'.cell? ⟨w.heap.size + 1, 1, none⟩ = some (.int .i64 b2)
theorem heap2 (w : World) (o o' : Obj) : ((w.alloc o).alloc o').heap[w.heap.size]? = some o ∧ ((w.alloc o).alloc o').heap[w.heap.size + 1]? = some o' := by
  constructor
  · show ((w.heap.push o).push o')[w.heap.size]? = _
    rw [Array.getElem?_push_lt (by simp)]; simp
  · show ((w.heap.push o).push o')[w.heap.size + 1]? = _
    have : w.heap.size + 1 = (w.heap.push o).size := by simp
    rw [this, Array.getElem?_push_size]
theorem size2 (w : World) (o o' : Obj) : ((w.alloc o).alloc o').heap.size = w.heap.size + 2 := by show ((w.heap.push o).push o').size = _; simp
theorem aft_of (a1 a2 b1 b2 : Int) (w : World) (os : Array Obj) : Aft a1 a2 b1 b2 w (grow ((w.alloc (.cells #[.int .i64 a1, .int .i64 a2] 28)).alloc (.cells #[.int .i64 b1, .int .i64 b2] 28)) os) := by
  obtain ⟨h1, h2⟩ := heap2 w (.cells #[.int .i64 a1, .int .i64 a2] 28) (.cells #[.int .i64 b1, .int .i64 b2] 28)
  have hs := size2 w (.cells #[.int .i64 a1, .int .i64 a2] 28) (.cells #[.int .i64 b1, .int .i64 b2] 28)
  refine ⟨⟨_, by rw [grow2, grow_grow]⟩, ?_, ?_, ?_, ?_⟩
  · rw [cell?_grow _ _ _ (by rw [hs]; show w.heap.size < _; omega)]; unfold World.cell?; dsimp only; rw [h1]; rfl
  · rw [cell?_grow _ _ _ (by rw [hs]; show w.heap.size < _; omega)]; unfold World.cell?; dsimp only; rw [h1]; rfl
  · rw [cell?_grow _ _ _ (by rw [hs]; show w.heap.size + 1 < _; omega)]; unfold World.cell?; dsimp only; rw [h2]; rfl
  · rw [cell?_grow _ _ _ (by rw [hs]; show w.heap.size + 1 < _; omega)]; unfold World.cell?; dsimp only; rw [h2]; rfl
set_option maxHeartbeats 800000 in
theorem orderI_exact (a1 a2 b1 b2 : Int) (w : World) : Calls Tryz.prog 82 #[.agg #[.int .i64 a1, .int .i64 a2], .agg #[.int .i64 b1, .int .i64 b2]] w fun e w' => e = .returned (.int .i64 (ordZ ⟨a1, a2⟩ ⟨b1, b2⟩)) ∧ ∃ os, w' = grow w os := by
  have hB : Calls Tryz.prog 137 #[.agg #[.int .i64 a1, .int .i64 a2], .agg #[.int .i64 b1, .int .i64 b2]] ((w.alloc (.cells #[.int .i64 a1, .int .i64 a2] 28)).alloc (.cells #[.int .i64 b1, .int .i64 b2] 28)) fun e w' => e = .returned (.bool (before ⟨a1, a2⟩ ⟨b1, b2⟩)) ∧ Aft a1 a2 b1 b2 w w' := by
    refine (before_exact a1 a2 b1 b2 _).mono ?_
    rintro e w' ⟨h, os, rfl⟩
    exact ⟨h, aft_of ..⟩
  have hC := fun W => before_exact b1 b2 a1 a2 W
  unfold ordZ
  generalize before ⟨a1, a2⟩ ⟨b1, b2⟩ = B at hB ⊢
  generalize before ⟨b1, b2⟩ ⟨a1, a2⟩ = C at hC ⊢
  go_enter Tryz.func82, Tryz.ntmps82
  cases B
  · cases C
    · go_wp2_with (go_at_call 137; first | (with_reducible refine (hC _).mono ?_; rintro e w'' ⟨rfl, os2, rfl⟩) | (refine hB.mono ?_; rintro e w' ⟨rfl, hG, c0, c1, d0, d1⟩))
      go_ret
      obtain ⟨os, rfl⟩ := hG
      exact ⟨by simp, _, by rw [grow_grow]⟩
    · go_wp2_with (go_at_call 137; first | (with_reducible refine (hC _).mono ?_; rintro e w'' ⟨rfl, os2, rfl⟩) | (refine hB.mono ?_; rintro e w' ⟨rfl, hG, c0, c1, d0, d1⟩))
      go_ret
      obtain ⟨os, rfl⟩ := hG
      exact ⟨by simp, _, by rw [grow_grow]⟩
  · go_wp2_with (go_at_call 137; refine hB.mono ?_; rintro e w' ⟨rfl, hG, c0, c1, d0, d1⟩)
    go_ret
    obtain ⟨os, rfl⟩ := hG
    exact ⟨by simp, _, rfl⟩
theorem prefix1_exact (a1 a2 b1 b2 : Int) (u v : Value) (hu : u.oneCell' = true) (hv : v.oneCell' = true) (w : World) : Calls Tryz.prog 128 #[.agg #[.int .i64 a1, .int .i64 a2, u], .agg #[.int .i64 b1, .int .i64 b2, v]] w fun e w' => e = .returned (.int .i64 (ordZ ⟨a1, a2⟩ ⟨b1, b2⟩)) ∧ ∃ os, w' = grow w os := by
  have hB := fun W => orderI_exact a1 a2 b1 b2 W
  go_enter Tryz.func128, Tryz.ntmps128
  go_wp2_with (go_at_call 82; refine (hB _).mono ?_; rintro e w' ⟨rfl, os, rfl⟩)
  go_ret
  exact ⟨by simp, _, by rw [grow2, grow_grow]⟩
end YtklgiidfompdpaaGreatDoor
end Go.Proofs
namespace Go.Ix
open Go Go.Sl Go.Gv Go.Kv Go.Po
section
variable {κ α β : Type} [DecidableEq κ]
/-- A map, its values told otherwise. -/
def mm (f : α → β) (m : List (κ × α)) : List (κ × β) := m.map fun p => (p.1, f p.2)
theorem mm_get (f : α → β) : ∀ (m : List (κ × α)) (k : κ), mget (mm f m) k = (mget m k).map f
  | [], _ => rfl
  | (j, v) :: m, k => by
    show mget ((j, f v) :: mm f m) k = (mget ((j, v) :: m) k).map f
    unfold mget
    split
    · rfl
    · exact mm_get f m k
theorem mm_put (f : α → β) : ∀ (m : List (κ × α)) (k : κ) (v : α), mm f (mput m k v) = mput (mm f m) k (f v)
  | [], _, _ => rfl
  | (j, u) :: m, k, v => by
    show mm f (mput ((j, u) :: m) k v) = mput ((j, f u) :: mm f m) k (f v)
    unfold mput
    split
    · rfl
    · show (j, f u) :: mm f (mput m k v) = _; rw [mm_put f m k v]
theorem mm_del (f : α → β) : ∀ (m : List (κ × α)) (k : κ), mm f (mdel m k) = mdel (mm f m) k
  | [], _ => rfl
  | (j, u) :: m, k => by
    show mm f (mdel ((j, u) :: m) k) = mdel ((j, f u) :: mm f m) k
    unfold mdel
    split
    · rfl
    · show (j, f u) :: mm f (mdel m k) = _; rw [mm_del f m k]
theorem mem_put : ∀ {m : List (κ × α)} {k : κ} {v : α} {p : κ × α}, p ∈ mput m k v → p = (k, v) ∨ p ∈ m
  | [], _, _, _, h => by simp [mput] at h; exact .inl h
  | (j, u) :: m, k, v, p, h => by
    unfold mput at h
    split at h
    · rename_i e
      rcases List.mem_cons.1 h with h | h
      · exact .inl (by rw [h, e])
      · exact .inr (List.mem_cons_of_mem _ h)
    · rcases List.mem_cons.1 h with h | h
      · exact .inr (by rw [h]; exact List.mem_cons_self ..)
      · rcases mem_put h with h | h
        · exact .inl h
        · exact .inr (List.mem_cons_of_mem _ h)
theorem mem_mdel : ∀ {m : List (κ × α)} {k : κ} {p : κ × α}, p ∈ mdel m k → p ∈ m := fun h => (del_sub _ _).subset h
end
/-- An index, plain. -/
abbrev PL : Type := List (ByteArray × List PostP)
abbrev PW : Type := List (Key × List ByteArray)
def plL (L : List (ByteArray × SlV PostV)) : PL := mm (fun s => s.xs.map PostV.p) L
def plW (W : List (Key × SlV ByteArray)) : PW := mm (fun s => s.xs) W
def dropE (k : Key) (m : PL) (w : ByteArray) : PL := if dropP ((mget m w).getD []) k = [] then mdel (mput m w (dropP ((mget m w).getD []) k)) w else mput m w (dropP ((mget m w).getD []) k)
def dropK (s : PL × PW × Nat) (k : Key) : PL × PW × Nat := match mget s.2.1 k with
  | none => s
  | some ws => (ws.foldl (dropE k) s.1, mdel s.2.1 k, s.2.2 + 1)
theorem fold_take {α β : Type} (f : β → α → β) (b : β) {l : List α} {i : Nat} {x : α} (h : l[i]? = some x) : (l.take (i + 1)).foldl f b = f ((l.take i).foldl f b) x := by
  rw [List.take_add_one, h, List.foldl_append]; rfl
theorem dropP_sub {L : List PostP} {k : Key} {p : PostP} (h : p ∈ dropP L k) : p ∈ L := by
  unfold dropP at h; split at h
  · exact (List.mem_filter.1 h).1
  · cases h
theorem dropP_le (L : List PostP) (k : Key) : (dropP L k).length ≤ L.length := by
  unfold dropP; split
  · exact List.length_filter_le ..
  · exact Nat.zero_le _
end Go.Ix
namespace Go.Proofs.YtklgiidfompdpaaGreatDoor
open Go Go.Sl Go.Gv Go.Kv Go.Po Go.Ix
set_option maxRecDepth 100000
theorem plL_get (L : List (ByteArray × SlV PostV)) (w : ByteArray) : (mget (plL L) w).getD [] = plain1 (lisT L w).xs := by
  rw [plL, mm_get, lisT]; cases mget L w <;> rfl
theorem plain_bound {qs ps : List PostV} {L : List PostP} {n : Nat} (h : plain1 qs = L) (hs : ∀ p ∈ L, p ∈ plain1 ps) (hp : ∀ p ∈ ps, p.t.xs.length ≤ n) : ∀ q ∈ qs, q.t.xs.length ≤ n := fun q hq => by
  have : q.p ∈ plain1 ps := hs _ (h ▸ List.mem_map.2 ⟨q, hq, rfl⟩)
  obtain ⟨y, hm, he⟩ := List.mem_map.1 this
  have e : y.t.xs = q.t.xs := congrArg Prod.snd he
  rw [← e]; exact hp y hm
theorem RdL.put {S : HProp} {L : List (ByteArray × SlV PostV)} (h : RdL S L) {w : ByteArray} {a : Option Addr} {c : Nat} {qs : List PostV} (hq : ∀ q ∈ qs, q.t.xs.length ≤ 1000) (hl : qs.length ≤ 1000) : RdL (two S (plO a c qs)) (mput L w ⟨a, qs, c⟩) := fun p hp => by
  rcases mem_put hp with rfl | hp
  · exact ⟨(prd_plO hq).r, hl⟩
  · exact ⟨(h p hp).1.l, (h p hp).2⟩
theorem RdL.del {S : HProp} {L : List (ByteArray × SlV PostV)} (h : RdL S L) (w : ByteArray) : RdL S (mdel L w) := fun p hp => h p (mem_mdel hp)
theorem RdW.del {S : HProp} {W : List (Key × SlV ByteArray)} (h : RdW S W) (k : Key) : RdW S (mdel W k) := fun p hp => h p (mem_mdel hp)
theorem RdL.at {S : HProp} {L : List (ByteArray × SlV PostV)} (h : RdL S L) (w : ByteArray) : ∀ p ∈ (lisT L w).xs, p.t.xs.length ≤ 1000 := fun p hp => ((lisT_rd h w).1.2 p hp).2
theorem drop_spec (x : Nat) (L : List (ByteArray × SlV PostV)) (W : List (Key × SlV ByteArray)) {U : HProp} {ka : Option Addr} {kc : Nat} {ks : List Key} (hU : Srd U 2 keyC ka ks) (hkl : ks.length ≤ 1000000) :
    Ct Tryz.prog 32 [ptr x, .slice ka ks.length kc] [ixA x L W, U] (fun v hs => ∃ n L' W', v = int (n : Nat) ∧ (plL L', plW W', n) = ks.foldl dropK (plL L, plW W, 0) ∧ hs = [ixA x L' W', U]) := by
  refine Ct.intro Tryz.func32 rfl (by kernel_rfl) 73 Tryz.ntmps32 (Nat.le_of_ble_eq_true rfl) fun w0 R => ?_
  refine Gs.slAddr (hU.h (by repeat constructor)) fun kb ko hka => ?_
  refine Gsr ?_
  refine Las rfl rfl ?_
  refine Lnt ?_
  refine Gs.seq ?_
  refine Gsr ?_
  refine Lmv rfl rfl ?_
  refine Lpu rfl rfl trivial (pu_eqN Tryz.underlying72 rfl rfl) ?_
  refine Lnt ?_
  refine Gs.cond_ff rfl rfl ?_
  refine Gs.skip ?_
  refine Gs.then_n ?_
  refine Gsr ?_
  refine Las rfl rfl ?_
  refine Lnt ?_
  refine Gs.seq ?_
  refine Gsr ?_
  refine Lmv rfl rfl ?_
  refine Lpu rfl rfl trivial (pu_len Tryz.underlying48 rfl) ?_
  refine Lmv rfl rfl ?_
  refine Lnt ?_
  refine Gs.block ?_
  refine Gs.loop1 (fun s : Nat × Nat × List (ByteArray × SlV PostV) × List (Key × SlV ByteArray) => s.1 ≤ ks.length ∧ s.2.1 ≤ s.1 ∧ (plL s.2.2.1, plW s.2.2.2, s.2.1) = (ks.take s.1).foldl dropK (plL L, plW W, 0)) (fun s => [(0, ptr x), (5, int s.2.1), (14, .slice ka ks.length kc), (15, int ks.length), (16, int s.1)]) (fun s => [ixA x s.2.2.1 s.2.2.2, U] ++ R) (fun s => ks.length - s.1) (0, 0, L, W) (⟨Nat.zero_le _, Nat.zero_le _, rfl⟩) (by repeat constructor) (by repeat constructor) (fun s hs => ?_)
  obtain ⟨i, n, L1, W1⟩ := s
  obtain ⟨hi, hn, hst⟩ := hs
  dsimp only at hi hn hst ⊢
  refine Gsr ?_
  refine Lpu rfl rfl trivial (pu_lt rfl rfl) ?_
  refine Lnt ?_
  refine Gs.seq ?_
  refine Gs.cond rfl (fun hc1 => ?_) (fun hc1 => ?_)
  ·
   have hlt : i < ks.length := by have := of_decide_eq_true hc1; omega
   obtain ⟨k, hk⟩ : ∃ z, ks[i]? = some z := ⟨ks[i], by simp [hlt]⟩
   obtain rfl := hka (by rintro rfl; simp at hlt)
   have hnx := fold_take dropK (plL L, plW W, 0) hk
   rw [← hst] at hnx
   refine Gs.ix fun ml mw S hL hW => ?_
   refine Gs.skip ?_
   refine Gs.then_n ?_
   refine Gs.seq ?_
   refine Gs.block ?_
   refine Gsr ?_
   refine Lpu rfl rfl trivial (pu_ia se_48 rfl rfl (by omega) (by omega)) ?_
   refine Lrd rfl rfl trivial (rd_lda ag_28 rfl (Rdc.el0 (hU.h (by repeat constructor)) hk rfl rfl) rfl) ?_
   refine Lac rfl rfl trivial (ac_alloc zv_28 rfl) ?_
   rintro _ _ ⟨tb, rfl, rfl⟩
   refine Lac0 rfl trivial (ac_st sz_28 rfl rfl (by repeat constructor) rfl rfl rfl rfl) ?_
   rintro _ _ rfl
   refine Lnt ?_
   refine Gs.seq ?_
   refine Gs.regD mixed (by kernel_rfl) ?_
   refine Rg.pu 0 rfl rfl (by kernel_rfl) trivial (pu_move rfl) ?_
   refine Rg.pu 1 rfl rfl (by kernel_rfl) trivial (by first | exact pu_nil rfl | exact pu_nilF rfl) ?_
   refine Rg.pu 2 rfl rfl (by kernel_rfl) trivial (pu_fa fa_92_1 rfl) ?_
   refine Rg.rd 3 rfl rfl (by kernel_rfl) trivial (rd_ld na_90 rfl (Rdc.cl1 (by repeat constructor) rfl)) ?_
   refine Rg.rd 4 rfl rfl (by kernel_rfl) trivial (rd_lda ag_28 rfl (Rdc.cl 2 (by repeat constructor) rfl) rfl) ?_
   refine Rg.rd 5 rfl rfl (by kernel_rfl) trivial (rd_look2 Tryz.underlying90 kt_28 zvk_23 rfl rfl (by repeat constructor)) ?_
   refine Rg.pu 6 rfl rfl (by kernel_rfl) trivial (pu_move rfl) ?_
   refine Rg.pu 7 rfl rfl (by kernel_rfl) trivial (pu_extract rfl rfl) ?_
   refine Rg.pu 8 rfl rfl (by kernel_rfl) trivial (pu_extract rfl rfl) ?_
   refine Rg.pu 9 rfl rfl (by kernel_rfl) trivial (pu_assign rfl) ?_
   refine Rg.pu 10 rfl rfl (by kernel_rfl) trivial (pu_assign rfl) ?_
   refine Rg.end (by kernel_rfl) ?_
   refine Gs.then_n ?_
   refine Gs.seq ?_
   refine Gsr ?_
   refine Lmv rfl rfl ?_
   refine Lpu rfl rfl trivial (pu_not rfl) ?_
   refine Lnt ?_
   refine Gs.cond rfl (fun hc2 => ?_) (fun hc2 => ?_)
   ·
    have hno : mget W1 k = none := by
      cases h : mget W1 k with
      | none => rfl
      | some s => rw [h] at hc2; cases hc2
    have hsame : (plL L1, plW W1, n) = (ks.take (i + 1)).foldl dropK (plL L, plW W, 0) := by
      rw [hnx]; unfold dropK; rw [show mget (plL L1, plW W1, n).2.1 k = none by show mget (plW W1) k = none; rw [plW, mm_get, hno]; rfl]
    refine Gs.takes (As := [cl x 92 [.map (some ml), .map (some mw)], mp strV slV ml L1, mp keyV slV mw W1, S]) (by repeat constructor) (Gs.ixc hL hW ?_)
    refine Gs.exit ?_
    refine Gs.then_x ?_
    refine Gs.blk_hit ?_
    refine Gs.then_n ?_
    refine Gs.reg ?_
    refine Lpu rfl rfl trivial (by first | exact pu_addI rfl rfl rfl (by omega) (by omega) | exact pu_add rfl rfl) ?_
    refine Lmv rfl rfl ?_
    refine Lnt ?_
    first | exact Gs.again1 (i + 1, n, L1, W1) ⟨by show i + 1 ≤ ks.length; omega, by show n ≤ i + 1; omega, hsame⟩ (by show ks.length - (i + 1) < ks.length - i; omega) (by repeat constructor) (by repeat constructor) | exact Gs.again1 (i + 1, n + 1, L2, mdel W1 k) ⟨by show i + 1 ≤ ks.length; omega, by show n + 1 ≤ i + 1; omega, hsame⟩ (by show ks.length - (i + 1) < ks.length - i; omega) (by repeat constructor) (by repeat constructor)
   ·
    obtain ⟨ws, hws⟩ : ∃ ws, mget W1 k = some ws := by
      cases h : mget W1 k with
      | some s => exact ⟨s, rfl⟩
      | none => rw [h] at hc2; cases hc2
    obtain ⟨wa, wl, wc⟩ := ws
    have hwr : Srd S 1 strC wa wl ∧ wl.length ≤ 1000 := hW (k, ⟨wa, wl, wc⟩) (mget_mem hws)
    rw [hws]
    refine Gs.skip ?_
    refine Gs.then_n ?_
    refine Gs.seq ?_
    refine Gs.regD mixed (by kernel_rfl) ?_
    refine Rg.pu 0 rfl rfl (by kernel_rfl) trivial (pu_move rfl) ?_
    refine Rg.pu 1 rfl rfl (by kernel_rfl) trivial (by first | exact pu_nil rfl | exact pu_nilF rfl) ?_
    refine Rg.pu 2 rfl rfl (by kernel_rfl) trivial (pu_fa fa_92_1 rfl) ?_
    refine Rg.rd 3 rfl rfl (by kernel_rfl) trivial (rd_ld na_90 rfl (Rdc.cl1 (by repeat constructor) rfl)) ?_
    refine Rg.rd 4 rfl rfl (by kernel_rfl) trivial (rd_lda ag_28 rfl (Rdc.cl 2 (by repeat constructor) rfl) rfl) ?_
    refine Rg.one (by kernel_rfl) (Stp.ac0 5 rfl rfl (by kernel_rfl) trivial (ac_del (encv := encv_23) Tryz.underlying90 kt_28 rfl rfl rfl (by repeat constructor))  ?_)
    rintro _ _ rfl
    refine Rg.end (by kernel_rfl) ?_
    refine Gs.then_n ?_
    refine Gsr ?_
    refine Lmv rfl rfl ?_
    refine Lpu rfl rfl trivial (by first | exact pu_addI rfl rfl rfl (by omega) (by omega) | exact pu_add rfl rfl) ?_
    refine Las rfl rfl ?_
    refine Lnt ?_
    refine Gs.seq ?_
    refine Gs.slAddr (hwr.1.h (by repeat constructor)) fun wb wo hwa => ?_
    refine Gs.reg ?_
    refine Lmv rfl rfl ?_
    refine Lpu rfl rfl trivial (pu_len Tryz.underlying23 rfl) ?_
    refine Lmv rfl rfl ?_
    refine Lnt ?_
    refine Gs.block ?_
    refine Gs.loop1 (fun s : Nat × List (ByteArray × SlV PostV) × HProp => s.1 ≤ wl.length ∧ plL s.2.1 = (wl.take s.1).foldl (dropE k) (plL L1) ∧ RdL s.2.2 s.2.1 ∧ RdW s.2.2 (mdel W1 k) ∧ Srd s.2.2 1 strC wa wl) (fun s => [(0, ptr x), (5, int ((n + 1 : Nat) : Int)), (7, ptr tb), (14, .slice (some ⟨kb, ko, none⟩) ks.length kc), (15, int ks.length), (16, int i), (38, .slice wa wl.length wc), (39, int wl.length), (40, int s.1)]) (fun s => [cl x 92 [.map (some ml), .map (some mw)], mp strV slV ml s.2.1, mp keyV slV mw (mdel W1 k), s.2.2, cl tb 28 (keyC k), U] ++ R) (fun s => wl.length - s.1) (0, L1, S) (⟨Nat.zero_le _, rfl, hL, hW.del k, hwr.1⟩) (by repeat constructor) (by repeat constructor) (fun s hs1 => ?_)
    obtain ⟨j, L2, S2⟩ := s
    obtain ⟨hj, hst2, hL2, hW2, hwr2⟩ := hs1
    dsimp only at hj hst2 hL2 hW2 hwr2 ⊢
    refine Gsr ?_
    refine Lpu rfl rfl trivial (pu_lt rfl rfl) ?_
    refine Lnt ?_
    refine Gs.seq ?_
    refine Gs.cond rfl (fun hc3 => ?_) (fun hc3 => ?_)
    ·
     have hlt3 : j < wl.length := by have := of_decide_eq_true hc3; omega
     obtain ⟨w, hw⟩ : ∃ z, wl[j]? = some z := ⟨wl[j], by simp [hlt3]⟩
     obtain rfl := hwa (by rintro rfl; simp at hlt3)
     have hnx2 := fold_take (dropE k) (plL L1) hw
     rw [← hst2] at hnx2
     have hrd := lisT_rd hL2 w
     refine Gs.skip ?_
     refine Gs.then_n ?_
     refine Gs.seq ?_
     refine Gs.block ?_
     refine Gsr ?_
     refine Lpu rfl rfl trivial (pu_ia se_23 rfl rfl (by omega) (by omega)) ?_
     refine Lrd rfl rfl trivial (rd_ld na_9 rfl (Rdc.el0 (hwr2.h (by repeat constructor)) hw rfl rfl)) ?_
     refine Las rfl rfl ?_
     refine Lnt ?_
     refine Gs.seq ?_
     refine Gs.regD mixed (by kernel_rfl) ?_
     refine Rg.pu 0 rfl rfl (by kernel_rfl) trivial (pu_move rfl) ?_
     refine Rg.pu 1 rfl rfl (by kernel_rfl) trivial (by first | exact pu_nil rfl | exact pu_nilF rfl) ?_
     refine Rg.pu 2 rfl rfl (by kernel_rfl) trivial (pu_fa fa_92_0 rfl) ?_
     refine Rg.rd 3 rfl rfl (by kernel_rfl) trivial (rd_ld na_89 rfl (Rdc.cl1 (by repeat constructor) rfl)) ?_
     refine Rg.pu 4 rfl rfl (by kernel_rfl) trivial (pu_move rfl) ?_
     refine Rg.pu 5 rfl rfl (by kernel_rfl) trivial (pu_move rfl) ?_
     refine Rg.pu 6 rfl rfl (by kernel_rfl) trivial (by first | exact pu_nil rfl | exact pu_nilF rfl) ?_
     refine Rg.pu 7 rfl rfl (by kernel_rfl) trivial (pu_fa fa_92_0 rfl) ?_
     refine Rg.rd 8 rfl rfl (by kernel_rfl) trivial (rd_ld na_89 rfl (Rdc.cl1 (by repeat constructor) rfl)) ?_
     refine Rg.pu 9 rfl rfl (by kernel_rfl) trivial (pu_move rfl) ?_
     refine Rg.rd 10 rfl rfl (by kernel_rfl) trivial (rd_look1 Tryz.underlying89 kt_9 zvk_94 rfl rfl (by repeat constructor)) ?_
     refine Rg.rd 11 rfl rfl (by kernel_rfl) trivial (rd_lda ag_28 rfl (Rdc.cl 2 (by repeat constructor) rfl) rfl) ?_
     refine Rg.one (by kernel_rfl) (Stp.acR 12 [3] rfl rfl (by kernel_rfl) trivial (as_call (pdrop_spec (a := (lisT L2 w).a) (c := (lisT L2 w).c) hrd.1 hrd.2 k) (by repeat constructor) (by repeat constructor)) (by rintro _ _ ⟨_, ⟨da, dc, qs, rfl, hq, rfl⟩, rfl⟩; exact (Reads.cons rfl rfl rfl trivial rfl (rd_ld na_89 rfl (Rdc.cl1 (by repeat constructor) rfl)) Reads.nil)) ?_)
     rintro _ _ ⟨_, ⟨da, dc, qs, rfl, hq, rfl⟩, rfl⟩
     have hqe : plain1 qs = dropP ((mget (plL L2) w).getD []) k := by rw [hq, plL_get]
     have hql : qs.length ≤ 1000 := by
       have h1 := congrArg List.length hqe
       have h2 := dropP_le ((mget (plL L2) w).getD []) k
       rw [plL_get] at h1 h2
       simp only [List.length_map] at h1 h2
       have := hrd.2; omega
     have hqb : ∀ q ∈ qs, q.t.xs.length ≤ 1000 := plain_bound hq (fun p hp => dropP_sub hp) (hL2.at w)
     have hL3 := hL2.put (w := w) (a := da) (c := dc) hqb hql
     have hpl : plL (mput L2 w ⟨da, qs, dc⟩) = mput (plL L2) w (dropP ((mget (plL L2) w).getD []) k) := by rw [plL, mm_put, ← hqe]; rfl
     refine Rg.one (by kernel_rfl) (Stp.ac0 13 rfl rfl (by kernel_rfl) trivial (ac_put (encv := slV) (v := (⟨da, qs, dc⟩ : SlV PostV)) Tryz.underlying89 kt_9 rfl rfl rfl (by repeat constructor))  ?_)
     rintro _ _ rfl
     refine Rg.end (by kernel_rfl) ?_
     refine Gs.then_n ?_
     refine Gsr ?_
     refine Lmv rfl rfl ?_
     refine Lpu rfl rfl trivial (by first | exact pu_nil rfl | exact pu_nilF rfl) ?_
     refine Lpu rfl rfl trivial (pu_fa fa_92_0 rfl) ?_
     refine Lrd rfl rfl trivial (rd_ld na_89 rfl (Rdc.cl1 (by repeat constructor) rfl)) ?_
     refine Lmv rfl rfl ?_
     refine Lrd rfl rfl trivial (rd_look1 Tryz.underlying89 kt_9 zvk_94 rfl rfl (by repeat constructor)) ?_
     refine Lpu rfl rfl trivial (pu_len Tryz.underlying94 rfl) ?_
     rw [show (mget (mput L2 w ⟨da, qs, dc⟩) w).getD slZ = (⟨da, qs, dc⟩ : SlV PostV) by rw [mget_put, if_pos rfl]; rfl]
     refine Lpu rfl rfl trivial (pu_eq rfl rfl) ?_
     refine Lnt ?_
     refine Gs.cond rfl (fun hc4 => ?_) (fun hc4 => ?_)
     ·
      have h0 : qs = [] := List.length_eq_zero_iff.1 (by have := of_decide_eq_true hc4; dsimp only at this; omega)
      have hst3 : plL (mdel (mput L2 w ⟨da, qs, dc⟩) w) = (wl.take (j + 1)).foldl (dropE k) (plL L1) := by
        rw [hnx2, plL, mm_del, ← plL, hpl]; unfold dropE; rw [if_pos (by rw [← hqe, h0]; rfl)]
      have hL4 := hL3.del w
      refine Gs.reg ?_
      refine Lmv rfl rfl ?_
      refine Lpu rfl rfl trivial (by first | exact pu_nil rfl | exact pu_nilF rfl) ?_
      refine Lpu rfl rfl trivial (pu_fa fa_92_0 rfl) ?_
      refine Lrd rfl rfl trivial (rd_ld na_89 rfl (Rdc.cl1 (by repeat constructor) rfl)) ?_
      refine Lmv rfl rfl ?_
      refine Lac0 rfl trivial (ac_del (encv := encv_94) Tryz.underlying89 kt_9 rfl rfl rfl (by repeat constructor)) ?_
      rintro _ _ rfl
      refine Lnil ?_
      refine Gs.blk_n ?_
      refine Gs.then_n ?_
      refine Gs.reg ?_
      refine Lpu rfl rfl trivial (by first | exact pu_addI rfl rfl rfl (by omega) (by omega) | exact pu_add rfl rfl) ?_
      refine Lmv rfl rfl ?_
      refine Lnt ?_
      first | exact Gs.takes (As := [S2, plO da dc qs]) (by repeat constructor) (Gs.toTwo (Gs.again1 (j + 1, mdel (mput L2 w ⟨da, qs, dc⟩) w, two S2 (plO da dc qs)) ⟨by show j + 1 ≤ wl.length; omega, hst3, hL4, hW2.l, Srd.two1 hwr2⟩ (by show wl.length - (j + 1) < wl.length - j; omega) (by repeat constructor) (by repeat constructor))) | exact Gs.takes (As := [S2, plO da dc qs]) (by repeat constructor) (Gs.toTwo (Gs.again1 (j + 1, mput L2 w ⟨da, qs, dc⟩, two S2 (plO da dc qs)) ⟨by show j + 1 ≤ wl.length; omega, hst3, hL4, hW2.l, Srd.two1 hwr2⟩ (by show wl.length - (j + 1) < wl.length - j; omega) (by repeat constructor) (by repeat constructor)))
     ·
      have h0 : ¬ qs = [] := fun e => by have := of_decide_eq_false hc4; rw [e] at this; exact this rfl
      have hst3 : plL (mput L2 w ⟨da, qs, dc⟩) = (wl.take (j + 1)).foldl (dropE k) (plL L1) := by
        rw [hnx2, hpl]; unfold dropE; rw [if_neg (by rw [← hqe]; simpa using h0)]
      have hL4 := hL3
      refine Gs.skip ?_
      refine Gs.blk_n ?_
      refine Gs.then_n ?_
      refine Gs.reg ?_
      refine Lpu rfl rfl trivial (by first | exact pu_addI rfl rfl rfl (by omega) (by omega) | exact pu_add rfl rfl) ?_
      refine Lmv rfl rfl ?_
      refine Lnt ?_
      first | exact Gs.takes (As := [S2, plO da dc qs]) (by repeat constructor) (Gs.toTwo (Gs.again1 (j + 1, mdel (mput L2 w ⟨da, qs, dc⟩) w, two S2 (plO da dc qs)) ⟨by show j + 1 ≤ wl.length; omega, hst3, hL4, hW2.l, Srd.two1 hwr2⟩ (by show wl.length - (j + 1) < wl.length - j; omega) (by repeat constructor) (by repeat constructor))) | exact Gs.takes (As := [S2, plO da dc qs]) (by repeat constructor) (Gs.toTwo (Gs.again1 (j + 1, mput L2 w ⟨da, qs, dc⟩, two S2 (plO da dc qs)) ⟨by show j + 1 ≤ wl.length; omega, hst3, hL4, hW2.l, Srd.two1 hwr2⟩ (by show wl.length - (j + 1) < wl.length - j; omega) (by repeat constructor) (by repeat constructor)))
    ·
     have hge3 : j = wl.length := by have := of_decide_eq_false hc3; omega
     rw [hge3, List.take_length] at hst2
     have hsame : (plL L2, plW (mdel W1 k), n + 1) = (ks.take (i + 1)).foldl dropK (plL L, plW W, 0) := by
       rw [hnx]; unfold dropK; rw [show mget (plL L1, plW W1, n).2.1 k = some wl by show mget (plW W1) k = some wl; rw [plW, mm_get, hws]; rfl]
       show _ = (wl.foldl (dropE k) (plL L1), mdel (plW W1) k, n + 1)
       rw [← hst2, plW, plW, mm_del]
     refine Gs.takes (As := [cl x 92 [.map (some ml), .map (some mw)], mp strV slV ml L2, mp keyV slV mw (mdel W1 k), S2]) (by repeat constructor) (Gs.ixc hL2 hW2 ?_)
     refine Gs.exit ?_
     refine Gs.then_x ?_
     refine Gs.then_x ?_
     refine Gs.blk_hit ?_
     refine Gs.blk_n ?_
     refine Gs.then_n ?_
     refine Gs.reg ?_
     refine Lpu rfl rfl trivial (by first | exact pu_addI rfl rfl rfl (by omega) (by omega) | exact pu_add rfl rfl) ?_
     refine Lmv rfl rfl ?_
     refine Lnt ?_
     first | exact Gs.again1 (i + 1, n, L1, W1) ⟨by show i + 1 ≤ ks.length; omega, by show n ≤ i + 1; omega, hsame⟩ (by show ks.length - (i + 1) < ks.length - i; omega) (by repeat constructor) (by repeat constructor) | exact Gs.again1 (i + 1, n + 1, L2, mdel W1 k) ⟨by show i + 1 ≤ ks.length; omega, by show n + 1 ≤ i + 1; omega, hsame⟩ (by show ks.length - (i + 1) < ks.length - i; omega) (by repeat constructor) (by repeat constructor)
  ·
   have hge : i = ks.length := by have := of_decide_eq_false hc1; omega
   rw [hge, List.take_length] at hst
   refine Gs.exit ?_
   refine Gs.then_x ?_
   refine Gs.then_x ?_
   refine Gs.blk_hit ?_
   refine Gs.then_n ?_
   refine Gsr ?_
   refine Lmv rfl rfl ?_
   refine Las rfl rfl ?_
   refine Lnt ?_
   refine Gs.ret ?_
   exact Gs.fin1 Tryz.results32 rfl _ (⟨n, L1, W1, rfl, hst, rfl⟩) (by repeat constructor)
end Go.Proofs.YtklgiidfompdpaaGreatDoor
namespace Go.Sl
open Go
/-- A fence that lets everything in. -/
structure Fw (F : Fence) : Prop where
  fn : ∀ f, F.fn f
  depth : F.depth = none
  calls : ∀ (n : Nat) (P : Program) (f : FuncId) (args : Array Value) (w : World) (R : Ending → World → Prop), Calls P f args w R → CallsIn F n P f args w R
theorem Fw.wide : Fw Fence.wide := ⟨fun _ => trivial, rfl, fun _ _ _ _ _ _ h => callsIn_wide.2 h⟩
theorem Fw.round (l : Nat) : Fw (Fence.wide.inRound l) := ⟨fun _ => trivial, rfl, fun n P f args w R h => CallsIn.inRound l (callsIn_wide (n := n).2 h)⟩
def notDefer : Op → Bool
  | .defer _ => false
  | _ => true
section
variable {P : Program} {n m : Nat} {w0 : World} {env : Env} {H : List HProp} {F : Fence}
theorem Outc.wpIn (fw : Fw F) {R : Value → World → Prop} {o : Oper} {a : Act} {w : World} {K : Act → World → Prop} {Q : Exit → Act → World → Prop} (hd : notDefer o.op = true) (h : Outc P R ((execOp a.eval o).run P w)) (k : ∀ v w', R v w' → K (a.put o.dst v) w') : o.wpIn F m P a w K Q := by
  unfold Oper.wpIn
  refine ⟨fun f _ => fw.fn f, ?_⟩
  rw [Oper.semAt_eq _ _ _ (fun c e => by rw [e] at hd; cases hd)]
  generalize (execOp a.eval o).run P w = r at h
  cases r with
  | ok x w' =>
    cases x <;> simp only [Outc] at h <;> first
      | exact k _ _ h
      | (refine ⟨fun hs => (by rw [fw.depth] at hs; cases hs), fw.calls _ _ _ _ _ _ (h.mono ?_)⟩
         rintro e w'' ⟨v, rfl, hr⟩
         exact k _ _ hr)
  | _ => exact h.elim
variable {Q : Exit → Act → World → Prop}
theorem GI.block {i : Nat} {c : Code} (g : Gs w0 n env H (c.wpIn F m P (Exit.inBlock i Q))) : Gs w0 n env H ((Code.block i c).wpIn F m P Q) := fun a w e s => wpIn_block (g a w e s)
theorem GI.reg {id : Nat} {l : List Oper} (ks : List Nat) (hk : List.range l.length = ks) (g : Gs w0 n env H (wpOpsIn F m P l.toArray Q ks)) : Gs w0 n env H ((Code.region id l.toArray false).wpIn F m P Q) := fun a w e s => wpIn_region (by subst hk; simpa using g a w e s)
variable {ops : Array Oper} {rest : List Nat}
theorem GI.ac {k d : Nat} {o : Oper} {post : Value → List HProp → Prop} (fw : Fw F) (ho : ops[k]? = some o) (hd : o.dst = some d) (hdn : Nat.blt d n = true) (hg : o.guard = none) (hnd : notDefer o.op = true) (s : Ac P o w0 env H post)
    (g : ∀ v H', post v H' → Gs w0 n ((d, v) :: env) H' (wpOpsIn F m P ops Q rest)) : Gs w0 n env H (wpOpsIn F m P ops Q (k :: rest)) := fun a w e t => by
  have hw : Region.wanted o (yielded ops a.tmps) = true := by simp [Region.wanted, hg]
  simp only [wpOpsIn, ho, hw, if_true]
  refine (s a.eval w e.rho t).wpIn fw hnd fun v w' ⟨H', p, t'⟩ => ?_
  rw [hd]; exact g v H' p _ _ (e.put (by simpa [Nat.blt_eq] using hdn) v) t'
theorem GI.ac0 {k : Nat} {o : Oper} {post : Value → List HProp → Prop} (fw : Fw F) (ho : ops[k]? = some o) (hd : o.dst = none) (hg : o.guard = none) (hnd : notDefer o.op = true) (s : Ac P o w0 env H post)
    (g : ∀ v H', post v H' → Gs w0 n env H' (wpOpsIn F m P ops Q rest)) : Gs w0 n env H (wpOpsIn F m P ops Q (k :: rest)) := fun a w e t => by
  have hw : Region.wanted o (yielded ops a.tmps) = true := by simp [Region.wanted, hg]
  simp only [wpOpsIn, ho, hw, if_true]
  refine (s a.eval w e.rho t).wpIn fw hnd fun v w' ⟨H', p, t'⟩ => ?_
  rw [hd]; exact g v H' p _ _ e t'
theorem GI.rd {k d : Nat} {o : Oper} {v : Value} (fw : Fw F) (ho : ops[k]? = some o) (hd : o.dst = some d) (hdn : Nat.blt d n = true) (hg : o.guard = none) (hnd : notDefer o.op = true) (s : Rd P o w0 env H v)
    (g : Gs w0 n ((d, v) :: env) H (wpOpsIn F m P ops Q rest)) : Gs w0 n env H (wpOpsIn F m P ops Q (k :: rest)) :=
  GI.ac fw ho hd hdn hg hnd s.ac fun _ _ ⟨h1, h2⟩ => by subst h1; subst h2; exact g
theorem GI.nil (g : Gs w0 n env H (Q .normal)) : Gs w0 n env H (wpOpsIn F m P ops Q []) := g
/-- Code within the widest fence is code. -/
theorem Gs.wide {c : Code} (g : Gs w0 n env H (c.wpIn Fence.wide m P Q)) : Gs w0 n env H (c.wp P Q) := fun a w e s => wpIn_wide.1 (g a w e s)
theorem Gs.begin {l : Nat} {r : Loop} (hr : r.state = .ready) {X : Act → World → Prop} (g : Gs w0 n env (pt l (.loop { r with state := .busy }) :: H) X) :
    Gs w0 n env (pt l (.loop r) :: H) (fun a w => ∃ w₂, (Instr.beginRound l).run P w = .ok () w₂ ∧ X a w₂) := fun a w e s => ⟨_, run_beginRound s.pt hr, g a _ e s.setMap⟩
theorem Gs.endRound {l : Nat} {r : Loop} {R : Ending → World → Prop} (k : ∀ w', Sat w0 w' (pt l (.loop { r with state := .ready, pending := none }) :: H) → R (.returned (.bool true)) w') :
    Gs w0 n env (pt l (.loop r) :: H) (roundPost P l R .normal) := fun a w e s => ⟨_, _, run_endRound none s.pt, k _ s.setMap⟩
/-- A body that holds a range over a function. -/
theorem Ct.introM {f : FuncId} {fn : Func} {c : Code} {args : List Value} {pre : List HProp} {post : Value → List HProp → Prop}
    (hf : P.funcs[f]? = some fn) (hb : fn.body = some c) (hname : (fn.name == "runtime.NumGoroutine") = false) (n : Nat) (hn : fn.ntmps = n) (hle : args.length ≤ n)
    (g : ∀ w0 R, Gs w0 n (envOf args 0) (pre ++ R) (c.wp P (bodyPostM Fence.wide 0 P fn fun e w' => ∃ v hs, e = .returned v ∧ post v hs ∧ Sat w0 w' (hs ++ R)))) :
    Ct P f args pre post := by
  refine ⟨Go.Proofs.enters_of hf hname hb args.toArray, fun w0 w R s => (callsIn_wide (n := 0)).1 (callsIn_of_wp_marks hf hb trivial (wpIn_wide.2 (g w0 R _ _ ⟨?_, rfl, ?_⟩ s)))⟩
  · simp [hn]; omega
  · intro t v h
    obtain ⟨-, h⟩ := lk_envOf args 0 t v h
    have hl := (List.getElem?_eq_some_iff.1 h).1
    simp only [Nat.sub_zero] at h hl
    simp [Array.getD_eq_getD_getElem?, Array.getElem?_append, hl, (List.getElem?_eq_some_iff.1 h).2]
theorem Sat.alloc2 {w : World} {L : List HProp} (s : Sat w0 w L) (o o' : Obj) : Sat w0 ((w.alloc o).alloc o') (Sl.pt (w.heap.size + 1) o' :: Sl.pt w.heap.size o :: L) := by
  have h := Sat.alloc (s.alloc o) o'
  have hsz : ({ w with heap := w.heap.push o } : World).heap.size = w.heap.size + 1 := by simp
  rw [hsz] at h; exact h
/-- Behind such a statement, where calls are deferred. -/
theorem tail_rd {l : List Oper} {o : Oper} {rest : List Oper} {d : Nat} {v : Value} {a : Act} {w : World} (ho : o.dst = some d) (hg : o.guard = none) (s : Rd P o w0 env H v) (rho : Rho env a.eval) (t : Sat w0 w H)
    (g : ∀ w', Sat w0 w' H → wpList P l.toArray Q rest (a.put (some d) v) w') : wpList P l.toArray Q (o :: rest) a w := by
  refine wpList_step fun K hK => ?_
  rw [if_pos (by simp [Region.wanted, hg])]
  refine (s.ac a.eval w rho t).wp fun v' w' ⟨H', ⟨hv, hH⟩, t'⟩ => hK _ _ ?_
  subst hv; subst hH; rw [ho]; exact g w' t'
/-- A range over a function, at an outermost loop. -/
theorem wp_rangeCall {x : Operand} {ps : Array Tmp} {assign body : Code} {a : Act} {w : World} {gf : FuncId} {cs : Array Value} (hg : a.eval x = .func (.func gf) #[] cs) (hen : ∀ args w, (callFunc gf args).run P w = .ok (.enter gf args) w)
    (h : ∀ fn r, r = ({ state := .ready, pending := none, fn, tmps := a.tmps, params := ps, assign, body, defers := w.heap.size } : Loop) → Calls P gf (#[.func (.yield (w.heap.size + 1)) #[] #[]] ++ cs) ((w.alloc (.deferred (some []))).alloc (.loop r)) fun e w' =>
      ∃ v w4, e = .returned v ∧ (Instr.endLoop (w.heap.size + 1)).run P w' = .ok none w4 ∧ Q .normal { a with defers := [{ target := .collected w.heap.size, args := #[] }] ++ a.defers } w4) :
    (Code.rangeFunc x ps assign body).wp P Q a w := by
  refine (wpIn_wide (n := 0)).1 (wpIn_rangeFunc (F := Fence.wide) (n := 0) fun fn _ => ?_)
  refine ⟨w.heap.size + 1, [{ target := .collected w.heap.size, args := #[] }], (w.alloc (.deferred (some []))).alloc (.loop { state := .ready, pending := none, fn, tmps := a.tmps, params := ps, assign, body, defers := w.heap.size }),
    { target := .fn (.func gf) cs, args := #[.func (.yield (w.heap.size + 1)) #[] #[]] }, (w.alloc (.deferred (some []))).alloc (.loop { state := .ready, pending := none, fn, tmps := a.tmps, params := ps, assign, body, defers := w.heap.size }), gf,
    #[.func (.yield (w.heap.size + 1)) #[] #[]] ++ cs, (w.alloc (.deferred (some []))).alloc (.loop { state := .ready, pending := none, fn, tmps := a.tmps, params := ps, assign, body, defers := w.heap.size }), run_enterLoop_outer _ _ _ _ _, ?_, fun _ _ => trivial, ?_, (fun h => by cases h), ?_⟩
  · simp only [resolve, hg]
    simp [go_sem]
  · simp [invoke, go_sem, hen]
  · refine callsIn_wide.2 ((h fn _ rfl).mono ?_)
    rintro e w' ⟨v, w4, rfl, h1, h2⟩
    exact ⟨none, w4, h1, h2⟩
end
end Go.Sl
namespace Go.Proofs.YtklgiidfompdpaaGreatDoor
open Go Go.Sl Go.Gv Go.Kv Go.Po Go.Ix
set_option maxRecDepth 100000
/-- What a call of yield does: it takes x over. -/
def l_YOk (P : Program) (l : Nat) (J : List ByteArray → HProp) : Prop := ∀ (pre : List ByteArray) (x : ByteArray) (w0 w : World) (R : List HProp), pre.length < 100000 → Sat w0 w (J pre :: R) → ∃ f tmps assign body, (Instr.yield l #[strV x]).run P w = .ok (.round l f tmps assign body) w ∧
  ∀ m, RoundIn Fence.wide m P l f tmps assign body w fun e w' => e = .returned (.bool true) ∧ Sat w0 w' (J (pre ++ [x]) :: R)
theorem l_erase_perm {α : Type} : ∀ {l : List α} {i : Nat} {x : α}, l[i]? = some x → List.Perm (x :: l.eraseIdx i) l
  | [], _, _, h => by simp at h
  | a :: l, 0, x, h => by simp at h; subst h; exact List.Perm.refl _
  | a :: l, i + 1, x, h => by
    have := l_erase_perm (l := l) (i := i) (x := x) (by simpa using h)
    exact (List.Perm.swap a x _).trans (this.cons a)
theorem Gs.l_yieldAt {l : Nat} {J : List ByteArray → HProp} (hY : l_YOk Tryz.prog l J) {w0 : World} {n m k dd : Nat} {env : Env} {H : List HProp} {Q : Exit → Act → World → Prop} {ops : Array Oper} {rest : List Nat} {x y : Operand} {ts : Array TypeId} {ty : TypeId} {pos : String} {af : Array Edge} {pre : List ByteArray} (z : ByteArray)
    (hpl : pre.length < 100000) (ho : ops[k]? = some ⟨some dd, .call ⟨.value x, #[y], ts⟩, ty, pos, af, none⟩) (hdn : Nat.blt dd n = true) (hx : ev env x = some (.func (.yield l) #[] #[])) (hy : ev env y = some (strV z))
    (g : Gs w0 n ((dd, .bool true) :: env) (J (pre ++ [z]) :: H) (wpOpsIn Fence.wide m Tryz.prog ops Q rest)) : Gs w0 n env (J pre :: H) (wpOpsIn Fence.wide m Tryz.prog ops Q (k :: rest)) := fun a w e t => by
  obtain ⟨f, tmps, assign, body, h1, h2⟩ := hY pre z w0 w H hpl t
  have hw : Region.wanted ⟨some dd, .call ⟨.value x, #[y], ts⟩, ty, pos, af, none⟩ (yielded ops a.tmps) = true := by simp [Region.wanted]
  have hr : (execOp a.eval ⟨some dd, .call ⟨.value x, #[y], ts⟩, ty, pos, af, none⟩).run Tryz.prog w = .ok (.round l f tmps assign body) w := by
    show (do let d ← resolve a.eval ⟨.value x, #[y], ts⟩ ty; invoke d.target d.args : Sem Next).run Tryz.prog w = _
    have hr1 : resolve a.eval ⟨.value x, #[y], ts⟩ ty = (pure ⟨.fn (.yield l) #[], #[strV z]⟩ : Sem Deferred) := by
      simp only [resolve, e.eval hx, Deferred.ofValue]
      simp [e.eval hy]
    rw [hr1]
    simp only [Sem.run_bind, Sem.run_pure, Result.andThen_ok, invoke]
    exact h1
  simp only [wpOpsIn, ho, hw, if_true]
  unfold Oper.wpIn
  refine ⟨fun _ _ => trivial, ?_⟩
  rw [show Fence.wide.round = none from rfl, Oper.semAt_none, hr]
  refine ⟨(fun hs => by cases hs), (h2 (m - 1)).mono ?_⟩
  rintro e' w' ⟨rfl, t'⟩
  exact g _ _ (e.put (by simpa [Nat.blt_eq] using hdn) _) t'
theorem l_keysFn_spec (m : Nat) : Ct Tryz.prog 169 [.map (some m)] []
    (fun v hs => ∃ b, v = .func (.func 210) #[] #[.pointer (some ⟨b, 0, none⟩)] ∧ hs = [cl b 89 [.map (some m)]]) := by
  refine Ct.intro Tryz.func169 rfl (by kernel_rfl) 4 Tryz.ntmps169 (Nat.le_of_ble_eq_true rfl) fun w0 R => ?_
  refine Gsr ?_
  refine Lac rfl rfl trivial (ac_box rfl rfl) ?_
  rintro _ _ ⟨b, rfl, rfl⟩
  refine Las rfl rfl ?_
  refine Lnt ?_
  refine Gsr ?_
  refine Lpu rfl rfl trivial (pu_func (by repeat constructor) (by repeat constructor)) ?_
  refine Las rfl rfl ?_
  refine Lnt ?_
  refine Gs.ret ?_
  exact Gs.fin1 Tryz.results169 rfl _ (⟨b, rfl, rfl⟩) (by repeat constructor)
/-- The iterator: J is carried on over all keys, in some order. -/
theorem l_iter_spec {l : Nat} {J : List ByteArray → HProp} (hY : l_YOk Tryz.prog l J) (b m : Nat) (es : List (ByteArray × (SlV PostV))) (hes : es.length ≤ 100000) :
    Ct Tryz.prog 210 [.func (.yield l) #[] #[], .pointer (some ⟨b, 0, none⟩)] [J [], cl b 89 [.map (some m)], mp strV slV m es]
      (fun _ hs => ∃ xs, List.Perm xs (mkeys es) ∧ hs = [J xs, cl b 89 [.map (some m)], mp strV slV m es]) := by
  refine Ct.intro Tryz.func210 rfl (by kernel_rfl) 14 Tryz.ntmps210 (Nat.le_of_ble_eq_true rfl) fun w0 R => ?_
  refine Gsr ?_
  refine Lrd rfl rfl trivial (rd_ld na_89 rfl (Rdc.cl1 (by repeat constructor) rfl)) ?_
  refine Lac rfl rfl trivial (ac_range (enck := strV) (encv := slV) Tryz.underlying89 rfl (by repeat constructor)) ?_
  rintro _ _ ⟨r, rfl, rfl⟩
  refine Lnt ?_
  refine Gs.block ?_
  refine Gs.loop1 (fun s : List ByteArray × List (ByteArray × (SlV PostV)) × Option (ByteArray × (SlV PostV)) => List.Perm (s.1 ++ mkeys s.2.1) (mkeys es)) (fun s => [(0, .func (.yield l) #[] #[]), (5, .pointer (some ⟨r, 0, none⟩))]) (fun s => [itr strV slV r m es s.2.1 s.2.2, J s.1, cl b 89 [.map (some m)]] ++ R) (fun s => s.2.1.length) ([], es, none) (List.Perm.refl _) (by repeat constructor) (by repeat constructor) (fun s hs => ?_)
  obtain ⟨pre, left, last⟩ := s
  dsimp only at hs ⊢
  refine Gsr ?_
  refine Lac rfl rfl trivial (ac_next rfl (by repeat constructor)) ?_
  rintro _ _ (⟨hl, rfl, rfl⟩ | ⟨i, p, hp, rfl, rfl⟩)
  ·
   have hl' : left = [] := hl
   subst hl'
   refine Gs.itrEnd (by repeat constructor) ?_
   refine Lpu rfl rfl trivial (pu_extract rfl rfl) ?_
   refine Lnt ?_
   refine Gs.seq ?_
   refine Gs.cond_f rfl ?_
   refine Gs.exit ?_
   refine Gs.then_x ?_
   refine Gs.then_x ?_
   refine Gs.blk_hit ?_
   refine Gs.fin_n ?_
   exact Gs.fin0 Tryz.results210 _ (⟨pre, by simpa [mkeys] using hs, rfl⟩) (by repeat constructor)
  ·
   have hperm : List.Perm ((pre ++ [p.1]) ++ mkeys (left.eraseIdx i)) (mkeys es) := by
     refine List.Perm.trans ?_ hs
     rw [List.append_assoc]
     refine List.Perm.append_left pre ?_
     have h1 : List.Perm (p :: left.eraseIdx i) left := l_erase_perm hp
     exact h1.map Prod.fst
   have hlt : (left.eraseIdx i).length < left.length := by
     have := (List.getElem?_eq_some_iff.1 hp).1
     rw [List.length_eraseIdx_of_lt this]; omega
   have hpl : pre.length < 100000 := by
     have h1 := hs.length_eq
     have h2 := (List.getElem?_eq_some_iff.1 hp).1
     simp [mkeys] at h1; omega
   refine Lpu rfl rfl trivial (pu_extract rfl rfl) ?_
   refine Lnt ?_
   refine Gs.seq ?_
   refine Gs.cond_t rfl ?_
   refine Gs.skip ?_
   refine Gs.then_n ?_
   refine Gs.block ?_
   refine Gsr ?_
   refine Lrd rfl rfl trivial (ac_entry rfl (by repeat constructor)) ?_
   refine Lpu rfl rfl trivial (pu_extract rfl rfl) ?_
   refine Las rfl rfl ?_
   refine Lnt ?_
   refine Gs.seq ?_
   refine Gs.wide (m := 0) ?_
   refine GI.reg [0, 1, 2, 3] rfl ?_
   refine GI.rd Fw.wide rfl rfl rfl rfl rfl (Pu.rd (pu_move rfl)) ?_
   refine GI.rd Fw.wide rfl rfl rfl rfl rfl (Pu.rd (pu_move rfl)) ?_
   refine Gs.take (A := J pre) (by repeat constructor) ?_
   refine Gs.l_yieldAt hY p.1 hpl rfl rfl rfl rfl ?_
   refine GI.rd Fw.wide rfl rfl rfl rfl rfl (Pu.rd (pu_not rfl)) ?_
   refine GI.nil ?_
   refine Gs.then_n ?_
   refine Gs.cond_f rfl ?_
   refine Gs.skip ?_
   refine Gs.blk_n ?_
   refine Gs.then_n ?_
   exact Gs.again1 (pre ++ [p.1], left.eraseIdx i, some p) hperm hlt (by repeat constructor) (by repeat constructor)
/-- What slices.AppendSeq carries on: its loop's record; its variable; the keys that came. -/
def l_colJ (l b2 : Nat) (r : Loop) (pre : List ByteArray) : HProp := fun h => ∃ p : Option Addr × Nat, two (pt l (.loop r)) (two (cl b2 23 [.slice p.1 pre.length p.2]) (sl 9 1 strC p.1 p.2 pre)) h
theorem l_colJ_fold {l b2 n : Nat} {r : Loop} {pre : List ByteArray} {a : Option Addr} {c : Nat} {w0 w : World} {L : List HProp} (hn : n = pre.length) (s : Sat w0 w (pt l (.loop r) :: cl b2 23 [.slice a n c] :: sl 9 1 strC a c pre :: L)) : Sat w0 w (l_colJ l b2 r pre :: L) := by
  subst hn
  have s1 : Sat w0 w (cl b2 23 [.slice a pre.length c] :: sl 9 1 strC a c pre :: pt l (.loop r) :: L) := (s.take (.tl (.tl .hd))).take (.tl (.tl .hd))
  exact (Sat.two.2 ((Sat.two.2 s1).take (.tl .hd))).ent fun h x => ⟨(a, c), x⟩
theorem l_colJ_open {l b2 : Nat} {r : Loop} {pre : List ByteArray} {w0 w : World} {L : List HProp} (s : Sat w0 w (l_colJ l b2 r pre :: L)) : ∃ a c, Sat w0 w (pt l (.loop r) :: cl b2 23 [.slice a pre.length c] :: sl 9 1 strC a c pre :: L) := by
  obtain ⟨p, s1⟩ := s.ex
  have s2 := Sat.two.1 ((Sat.two.1 s1).take (.tl .hd))
  exact ⟨p.1, p.2, s2.take (.tl (.tl .hd))⟩
theorem l_collect_seq (b m : Nat) (es : List (ByteArray × (SlV PostV))) (hl : es.length ≤ 100000) :
    Ct Tryz.prog 144 [.slice none 0 0, .func (.func 210) #[] #[.pointer (some ⟨b, 0, none⟩)]]
      [cl b 89 [.map (some m)], mp strV slV m es] (fun v hs => ∃ xs a c, List.Perm xs (mkeys es) ∧ v = .slice a xs.length c ∧ hs = [sl 9 1 strC a c xs, mp strV slV m es]) := by
  refine Ct.introM Tryz.func144 rfl (by kernel_rfl) 13 Tryz.ntmps144 (Nat.le_of_ble_eq_true rfl) fun w0 R => ?_
  refine Gsr ?_
  refine Lac rfl rfl trivial (ac_box rfl rfl) ?_
  rintro _ _ ⟨b2, rfl, rfl⟩
  refine Las rfl rfl ?_
  refine Lnt ?_
  refine Gs.seq ?_
  refine Gsr ?_
  refine Lmv rfl rfl ?_
  refine Lnt ?_
  refine Gs.block ?_
  refine Gs.slNil 9 1 strC ?_
  intro a w e s
  have hen : ∀ args w, (callFunc 210 args).run Tryz.prog w = .ok (.enter 210 args) w := Go.Proofs.enters_of Tryz.func210 (by kernel_rfl) rfl
  have he : a.eval (.tmp 6) = .func (.func 210) #[] #[.pointer (some ⟨b, 0, none⟩)] := e.eval rfl
  refine wp_rangeCall he hen fun fn r hr => ?_
  have sat1 := s.alloc2 (.deferred (some [])) (.loop r)
  have hY : l_YOk Tryz.prog (w.heap.size + 1) (l_colJ (w.heap.size + 1) b2 r) := by
    intro pre x w1 w' R' hpl hs
    obtain ⟨a', c', s1⟩ := l_colJ_open hs
    refine ⟨r.fn, _, r.assign, r.body, run_yield s1.pt (by rw [hr]; rfl), fun m => roundIn_of_wpIn trivial ?_⟩
    have ht : (r.params.zip #[strV x]).foldl (fun tmps (t, a) => tmps.setIfInBounds t a) r.tmps = (a.put (some 7) (strV x)).tmps := by rw [hr]; simp [Act.put]
    have e7 : EnvOk 13 [(7, strV x), (2, .pointer (some ⟨b2, 0, none⟩))] ⟨(r.params.zip #[strV x]).foldl (fun tmps (t, a) => tmps.setIfInBounds t a) r.tmps, []⟩ := by
      rw [ht]
      have e8 := (e.put (d := 7) (by decide) (strV x)).sub (e := [(7, strV x), (2, .pointer (some ⟨b2, 0, none⟩))]) (by repeat constructor)
      exact ⟨e8.size, rfl, e8.slots⟩
    refine (?_ : Gs w1 13 [(7, strV x), (2, .pointer (some ⟨b2, 0, none⟩))] _ _) _ _ e7 s1
    subst hr
    refine GI.reg [0] rfl ?_
    refine GI.rd (Fw.round _) rfl rfl rfl rfl rfl (Pu.rd (pu_assign rfl)) ?_
    refine GI.nil ?_
    refine Gs.then_n ?_
    refine Gs.take .hd ?_
    refine Gs.begin rfl ?_
    refine GI.block ?_
    refine GI.reg [0, 1, 2, 3, 4] rfl ?_
    refine GI.rd (Fw.round _) rfl rfl rfl rfl rfl (rd_ld na_23 rfl (Rdc.cl1 (by repeat constructor) rfl)) ?_
    refine GI.rd (Fw.round _) rfl rfl rfl rfl rfl (Pu.rd (pu_move rfl)) ?_
    refine GI.ac (Fw.round _) rfl rfl rfl rfl rfl (ac_lit strC [x] et_23 ek_9 rfl (by repeat constructor) rfl rfl (by decide)) ?_
    rintro _ _ ⟨lb, rfl, rfl⟩
    refine GI.ac (Fw.round _) rfl rfl rfl rfl rfl (ac_append (xs := pre) et_23 ek_9 rfl rfl (by repeat constructor) (SrcH.sl Tryz.underlying23 ek_9 (SlH.own (by repeat constructor))) (by simp; omega) (by simp; omega)) ?_
    rintro _ _ ⟨a2, c2, rfl, rfl⟩
    refine GI.ac0 (Fw.round _) rfl rfl rfl rfl (ac_st sz_23 rfl rfl (by repeat constructor) rfl rfl rfl rfl) ?_
    rintro _ _ rfl
    refine GI.nil ?_
    refine Gs.blk_n ?_
    refine Gs.take (A := pt (w.heap.size + 1) (.loop _)) (by repeat constructor) ?_
    refine Gs.endRound fun w'' s'' => ⟨rfl, l_colJ_fold (a := a2) (c := c2) rfl (Ent.sat (by repeat constructor) s'')⟩
  have satJ : Sat w0 ((w.alloc (.deferred (some []))).alloc (.loop r)) ([l_colJ (w.heap.size + 1) b2 r [], cl b 89 [.map (some m)], mp strV slV m es] ++ (pt w.heap.size (.deferred (some [])) :: R)) := by
    have := sat1.takes (As := [pt (w.heap.size + 1) (.loop r), cl b2 23 [.slice none 0 0], sl 9 1 strC none 0 [], cl b 89 [.map (some m)], mp strV slV m es]) (by repeat constructor)
    exact l_colJ_fold rfl this
  refine ((l_iter_spec hY b m es hl).calls w0 _ _ satJ).mono ?_
  rintro e' w' ⟨v, hs, rfl, ⟨xs, hp, rfl⟩, sat2⟩
  obtain ⟨a', c', s3⟩ := l_colJ_open sat2
  have hend := run_endLoop (P := Tryz.prog) s3.pt (by rw [hr]; simp)
  rw [show r.pending = none by rw [hr]] at hend
  refine ⟨v, _, rfl, hend, ?_⟩
  have s4 : Sat w0 (w'.putObj (w.heap.size + 1) (.loop { r with state := .exhausted, pending := none })) _ := s3.setMap
  have rho : Rho [(2, .pointer (some ⟨b2, 0, none⟩))] a.eval := (e.sub (e := [(2, .pointer (some ⟨b2, 0, none⟩))]) (by repeat constructor)).rho
  refine wp_seq (wp_region_lit ?_)
  refine tail_rd rfl rfl (rd_ld na_23 rfl (Rdc.cl1 (by repeat constructor) rfl)) rho s4 fun w5 s5 => ?_
  have e5 := (e.put (d := 12) (by decide) (.slice a' xs.length c'))
  have rho5 : Rho [(12, .slice a' xs.length c')] (({ a with defers := [{ target := .collected w.heap.size, args := #[] }] ++ a.defers } : Act).put (some 12) (.slice a' xs.length c')).eval :=
    (e5.sub (e := [(12, .slice a' xs.length c')]) (by repeat constructor)).rho
  refine tail_rd rfl rfl (Pu.rd (pu_assign rfl)) rho5 s5 fun w6 s6 => ?_
  have e6 := (e5.put (d := 4) (by decide) (.slice a' xs.length c'))
  refine wp_ret ?_
  have s7 := s6.take (A := pt w.heap.size (.deferred (some []))) (by repeat constructor)
  have hds : a.defers = [] := e.defers
  show LeavesInM Fence.wide 0 _ _ _ _ ({ target := .collected w.heap.size, args := #[] } :: a.defers) .returning w6
  rw [hds]
  refine ⟨by simp, .inl ⟨w.heap.size, _, rfl, run_takeDeferred s7.pt, ?_⟩⟩
  have s8 : Sat w0 (w6.putObj w.heap.size (.deferred none)) _ := s7.setMap (o' := .deferred none)
  refine ⟨_, results_tmp Tryz.results144 _ _ _, _, _, rfl, ⟨xs, a', c', hp, ?_, rfl⟩, Ent.sat (by repeat constructor) s8⟩
  exact e6.slots 4 _ rfl
theorem l_collect_spec (b m : Nat) (es : List (ByteArray × (SlV PostV))) (hl : es.length ≤ 100000) :
    Ct Tryz.prog 96 [.func (.func 210) #[] #[.pointer (some ⟨b, 0, none⟩)]]
      [cl b 89 [.map (some m)], mp strV slV m es] (fun v hs => ∃ xs a c, List.Perm xs (mkeys es) ∧ v = .slice a xs.length c ∧ hs = [sl 9 1 strC a c xs, mp strV slV m es]) := by
  refine Ct.intro Tryz.func96 rfl (by kernel_rfl) 5 Tryz.ntmps96 (Nat.le_of_ble_eq_true rfl) fun w0 R => ?_
  refine Gsr ?_
  refine Las rfl rfl ?_
  refine Lnt ?_
  refine Gsr ?_
  refine Lmv rfl rfl ?_
  refine Lac rfl rfl trivial (as_call (l_collect_seq b m es hl) (by repeat constructor) (by repeat constructor)) ?_
  rintro _ _ ⟨_, ⟨xs, a, c, hp, rfl, rfl⟩, rfl⟩
  refine Las rfl rfl ?_
  refine Lnt ?_
  refine Gs.ret ?_
  exact Gs.fin1 Tryz.results96 rfl _ (⟨xs, a, c, hp, rfl, rfl⟩) (by repeat constructor)
end Go.Proofs.YtklgiidfompdpaaGreatDoor
namespace Go.Proofs.YtklgiidfompdpaaGreatDoor
open Go Go.Sl Go.Gv Go.Kv Go.Po Go.Ix
set_option maxRecDepth 100000
/-- What a call of yield does: it takes x over. -/
def t_YOk (P : Program) (l : Nat) (J : List ByteArray → HProp) : Prop := ∀ (pre : List ByteArray) (x : ByteArray) (w0 w : World) (R : List HProp), pre.length < 100000 → Sat w0 w (J pre :: R) → ∃ f tmps assign body, (Instr.yield l #[strV x]).run P w = .ok (.round l f tmps assign body) w ∧
  ∀ m, RoundIn Fence.wide m P l f tmps assign body w fun e w' => e = .returned (.bool true) ∧ Sat w0 w' (J (pre ++ [x]) :: R)
theorem t_erase_perm {α : Type} : ∀ {l : List α} {i : Nat} {x : α}, l[i]? = some x → List.Perm (x :: l.eraseIdx i) l
  | [], _, _, h => by simp at h
  | a :: l, 0, x, h => by simp at h; subst h; exact List.Perm.refl _
  | a :: l, i + 1, x, h => by
    have := t_erase_perm (l := l) (i := i) (x := x) (by simpa using h)
    exact (List.Perm.swap a x _).trans (this.cons a)
theorem Gs.t_yieldAt {l : Nat} {J : List ByteArray → HProp} (hY : t_YOk Tryz.prog l J) {w0 : World} {n m k dd : Nat} {env : Env} {H : List HProp} {Q : Exit → Act → World → Prop} {ops : Array Oper} {rest : List Nat} {x y : Operand} {ts : Array TypeId} {ty : TypeId} {pos : String} {af : Array Edge} {pre : List ByteArray} (z : ByteArray)
    (hpl : pre.length < 100000) (ho : ops[k]? = some ⟨some dd, .call ⟨.value x, #[y], ts⟩, ty, pos, af, none⟩) (hdn : Nat.blt dd n = true) (hx : ev env x = some (.func (.yield l) #[] #[])) (hy : ev env y = some (strV z))
    (g : Gs w0 n ((dd, .bool true) :: env) (J (pre ++ [z]) :: H) (wpOpsIn Fence.wide m Tryz.prog ops Q rest)) : Gs w0 n env (J pre :: H) (wpOpsIn Fence.wide m Tryz.prog ops Q (k :: rest)) := fun a w e t => by
  obtain ⟨f, tmps, assign, body, h1, h2⟩ := hY pre z w0 w H hpl t
  have hw : Region.wanted ⟨some dd, .call ⟨.value x, #[y], ts⟩, ty, pos, af, none⟩ (yielded ops a.tmps) = true := by simp [Region.wanted]
  have hr : (execOp a.eval ⟨some dd, .call ⟨.value x, #[y], ts⟩, ty, pos, af, none⟩).run Tryz.prog w = .ok (.round l f tmps assign body) w := by
    show (do let d ← resolve a.eval ⟨.value x, #[y], ts⟩ ty; invoke d.target d.args : Sem Next).run Tryz.prog w = _
    have hr1 : resolve a.eval ⟨.value x, #[y], ts⟩ ty = (pure ⟨.fn (.yield l) #[], #[strV z]⟩ : Sem Deferred) := by
      simp only [resolve, e.eval hx, Deferred.ofValue]
      simp [e.eval hy]
    rw [hr1]
    simp only [Sem.run_bind, Sem.run_pure, Result.andThen_ok, invoke]
    exact h1
  simp only [wpOpsIn, ho, hw, if_true]
  unfold Oper.wpIn
  refine ⟨fun _ _ => trivial, ?_⟩
  rw [show Fence.wide.round = none from rfl, Oper.semAt_none, hr]
  refine ⟨(fun hs => by cases hs), (h2 (m - 1)).mono ?_⟩
  rintro e' w' ⟨rfl, t'⟩
  exact g _ _ (e.put (by simpa [Nat.blt_eq] using hdn) _) t'
theorem t_keysFn_spec (m : Nat) : Ct Tryz.prog 51 [.map (some m)] []
    (fun v hs => ∃ b, v = .func (.func 98) #[] #[.pointer (some ⟨b, 0, none⟩)] ∧ hs = [cl b 96 [.map (some m)]]) := by
  refine Ct.intro Tryz.func51 rfl (by kernel_rfl) 4 Tryz.ntmps51 (Nat.le_of_ble_eq_true rfl) fun w0 R => ?_
  refine Gsr ?_
  refine Lac rfl rfl trivial (ac_box rfl rfl) ?_
  rintro _ _ ⟨b, rfl, rfl⟩
  refine Las rfl rfl ?_
  refine Lnt ?_
  refine Gsr ?_
  refine Lpu rfl rfl trivial (pu_func (by repeat constructor) (by repeat constructor)) ?_
  refine Las rfl rfl ?_
  refine Lnt ?_
  refine Gs.ret ?_
  exact Gs.fin1 Tryz.results51 rfl _ (⟨b, rfl, rfl⟩) (by repeat constructor)
/-- The iterator: J is carried on over all keys, in some order. -/
theorem t_iter_spec {l : Nat} {J : List ByteArray → HProp} (hY : t_YOk Tryz.prog l J) (b m : Nat) (es : List (ByteArray × (SlV Int))) (hes : es.length ≤ 100000) :
    Ct Tryz.prog 98 [.func (.yield l) #[] #[], .pointer (some ⟨b, 0, none⟩)] [J [], cl b 96 [.map (some m)], mp strV slV m es]
      (fun _ hs => ∃ xs, List.Perm xs (mkeys es) ∧ hs = [J xs, cl b 96 [.map (some m)], mp strV slV m es]) := by
  refine Ct.intro Tryz.func98 rfl (by kernel_rfl) 14 Tryz.ntmps98 (Nat.le_of_ble_eq_true rfl) fun w0 R => ?_
  refine Gsr ?_
  refine Lrd rfl rfl trivial (rd_ld na_96 rfl (Rdc.cl1 (by repeat constructor) rfl)) ?_
  refine Lac rfl rfl trivial (ac_range (enck := strV) (encv := slV) Tryz.underlying96 rfl (by repeat constructor)) ?_
  rintro _ _ ⟨r, rfl, rfl⟩
  refine Lnt ?_
  refine Gs.block ?_
  refine Gs.loop1 (fun s : List ByteArray × List (ByteArray × (SlV Int)) × Option (ByteArray × (SlV Int)) => List.Perm (s.1 ++ mkeys s.2.1) (mkeys es)) (fun s => [(0, .func (.yield l) #[] #[]), (5, .pointer (some ⟨r, 0, none⟩))]) (fun s => [itr strV slV r m es s.2.1 s.2.2, J s.1, cl b 96 [.map (some m)]] ++ R) (fun s => s.2.1.length) ([], es, none) (List.Perm.refl _) (by repeat constructor) (by repeat constructor) (fun s hs => ?_)
  obtain ⟨pre, left, last⟩ := s
  dsimp only at hs ⊢
  refine Gsr ?_
  refine Lac rfl rfl trivial (ac_next rfl (by repeat constructor)) ?_
  rintro _ _ (⟨hl, rfl, rfl⟩ | ⟨i, p, hp, rfl, rfl⟩)
  ·
   have hl' : left = [] := hl
   subst hl'
   refine Gs.itrEnd (by repeat constructor) ?_
   refine Lpu rfl rfl trivial (pu_extract rfl rfl) ?_
   refine Lnt ?_
   refine Gs.seq ?_
   refine Gs.cond_f rfl ?_
   refine Gs.exit ?_
   refine Gs.then_x ?_
   refine Gs.then_x ?_
   refine Gs.blk_hit ?_
   refine Gs.fin_n ?_
   exact Gs.fin0 Tryz.results98 _ (⟨pre, by simpa [mkeys] using hs, rfl⟩) (by repeat constructor)
  ·
   have hperm : List.Perm ((pre ++ [p.1]) ++ mkeys (left.eraseIdx i)) (mkeys es) := by
     refine List.Perm.trans ?_ hs
     rw [List.append_assoc]
     refine List.Perm.append_left pre ?_
     have h1 : List.Perm (p :: left.eraseIdx i) left := t_erase_perm hp
     exact h1.map Prod.fst
   have hlt : (left.eraseIdx i).length < left.length := by
     have := (List.getElem?_eq_some_iff.1 hp).1
     rw [List.length_eraseIdx_of_lt this]; omega
   have hpl : pre.length < 100000 := by
     have h1 := hs.length_eq
     have h2 := (List.getElem?_eq_some_iff.1 hp).1
     simp [mkeys] at h1; omega
   refine Lpu rfl rfl trivial (pu_extract rfl rfl) ?_
   refine Lnt ?_
   refine Gs.seq ?_
   refine Gs.cond_t rfl ?_
   refine Gs.skip ?_
   refine Gs.then_n ?_
   refine Gs.block ?_
   refine Gsr ?_
   refine Lrd rfl rfl trivial (ac_entry rfl (by repeat constructor)) ?_
   refine Lpu rfl rfl trivial (pu_extract rfl rfl) ?_
   refine Las rfl rfl ?_
   refine Lnt ?_
   refine Gs.seq ?_
   refine Gs.wide (m := 0) ?_
   refine GI.reg [0, 1, 2, 3] rfl ?_
   refine GI.rd Fw.wide rfl rfl rfl rfl rfl (Pu.rd (pu_move rfl)) ?_
   refine GI.rd Fw.wide rfl rfl rfl rfl rfl (Pu.rd (pu_move rfl)) ?_
   refine Gs.take (A := J pre) (by repeat constructor) ?_
   refine Gs.t_yieldAt hY p.1 hpl rfl rfl rfl rfl ?_
   refine GI.rd Fw.wide rfl rfl rfl rfl rfl (Pu.rd (pu_not rfl)) ?_
   refine GI.nil ?_
   refine Gs.then_n ?_
   refine Gs.cond_f rfl ?_
   refine Gs.skip ?_
   refine Gs.blk_n ?_
   refine Gs.then_n ?_
   exact Gs.again1 (pre ++ [p.1], left.eraseIdx i, some p) hperm hlt (by repeat constructor) (by repeat constructor)
/-- What slices.AppendSeq carries on: its loop's record; its variable; the keys that came. -/
def t_colJ (l b2 : Nat) (r : Loop) (pre : List ByteArray) : HProp := fun h => ∃ p : Option Addr × Nat, two (pt l (.loop r)) (two (cl b2 23 [.slice p.1 pre.length p.2]) (sl 9 1 strC p.1 p.2 pre)) h
theorem t_colJ_fold {l b2 n : Nat} {r : Loop} {pre : List ByteArray} {a : Option Addr} {c : Nat} {w0 w : World} {L : List HProp} (hn : n = pre.length) (s : Sat w0 w (pt l (.loop r) :: cl b2 23 [.slice a n c] :: sl 9 1 strC a c pre :: L)) : Sat w0 w (t_colJ l b2 r pre :: L) := by
  subst hn
  have s1 : Sat w0 w (cl b2 23 [.slice a pre.length c] :: sl 9 1 strC a c pre :: pt l (.loop r) :: L) := (s.take (.tl (.tl .hd))).take (.tl (.tl .hd))
  exact (Sat.two.2 ((Sat.two.2 s1).take (.tl .hd))).ent fun h x => ⟨(a, c), x⟩
theorem t_colJ_open {l b2 : Nat} {r : Loop} {pre : List ByteArray} {w0 w : World} {L : List HProp} (s : Sat w0 w (t_colJ l b2 r pre :: L)) : ∃ a c, Sat w0 w (pt l (.loop r) :: cl b2 23 [.slice a pre.length c] :: sl 9 1 strC a c pre :: L) := by
  obtain ⟨p, s1⟩ := s.ex
  have s2 := Sat.two.1 ((Sat.two.1 s1).take (.tl .hd))
  exact ⟨p.1, p.2, s2.take (.tl (.tl .hd))⟩
theorem t_collect_seq (b m : Nat) (es : List (ByteArray × (SlV Int))) (hl : es.length ≤ 100000) :
    Ct Tryz.prog 144 [.slice none 0 0, .func (.func 98) #[] #[.pointer (some ⟨b, 0, none⟩)]]
      [cl b 96 [.map (some m)], mp strV slV m es] (fun v hs => ∃ xs a c, List.Perm xs (mkeys es) ∧ v = .slice a xs.length c ∧ hs = [sl 9 1 strC a c xs, mp strV slV m es]) := by
  refine Ct.introM Tryz.func144 rfl (by kernel_rfl) 13 Tryz.ntmps144 (Nat.le_of_ble_eq_true rfl) fun w0 R => ?_
  refine Gsr ?_
  refine Lac rfl rfl trivial (ac_box rfl rfl) ?_
  rintro _ _ ⟨b2, rfl, rfl⟩
  refine Las rfl rfl ?_
  refine Lnt ?_
  refine Gs.seq ?_
  refine Gsr ?_
  refine Lmv rfl rfl ?_
  refine Lnt ?_
  refine Gs.block ?_
  refine Gs.slNil 9 1 strC ?_
  intro a w e s
  have hen : ∀ args w, (callFunc 98 args).run Tryz.prog w = .ok (.enter 98 args) w := Go.Proofs.enters_of Tryz.func98 (by kernel_rfl) rfl
  have he : a.eval (.tmp 6) = .func (.func 98) #[] #[.pointer (some ⟨b, 0, none⟩)] := e.eval rfl
  refine wp_rangeCall he hen fun fn r hr => ?_
  have sat1 := s.alloc2 (.deferred (some [])) (.loop r)
  have hY : t_YOk Tryz.prog (w.heap.size + 1) (t_colJ (w.heap.size + 1) b2 r) := by
    intro pre x w1 w' R' hpl hs
    obtain ⟨a', c', s1⟩ := t_colJ_open hs
    refine ⟨r.fn, _, r.assign, r.body, run_yield s1.pt (by rw [hr]; rfl), fun m => roundIn_of_wpIn trivial ?_⟩
    have ht : (r.params.zip #[strV x]).foldl (fun tmps (t, a) => tmps.setIfInBounds t a) r.tmps = (a.put (some 7) (strV x)).tmps := by rw [hr]; simp [Act.put]
    have e7 : EnvOk 13 [(7, strV x), (2, .pointer (some ⟨b2, 0, none⟩))] ⟨(r.params.zip #[strV x]).foldl (fun tmps (t, a) => tmps.setIfInBounds t a) r.tmps, []⟩ := by
      rw [ht]
      have e8 := (e.put (d := 7) (by decide) (strV x)).sub (e := [(7, strV x), (2, .pointer (some ⟨b2, 0, none⟩))]) (by repeat constructor)
      exact ⟨e8.size, rfl, e8.slots⟩
    refine (?_ : Gs w1 13 [(7, strV x), (2, .pointer (some ⟨b2, 0, none⟩))] _ _) _ _ e7 s1
    subst hr
    refine GI.reg [0] rfl ?_
    refine GI.rd (Fw.round _) rfl rfl rfl rfl rfl (Pu.rd (pu_assign rfl)) ?_
    refine GI.nil ?_
    refine Gs.then_n ?_
    refine Gs.take .hd ?_
    refine Gs.begin rfl ?_
    refine GI.block ?_
    refine GI.reg [0, 1, 2, 3, 4] rfl ?_
    refine GI.rd (Fw.round _) rfl rfl rfl rfl rfl (rd_ld na_23 rfl (Rdc.cl1 (by repeat constructor) rfl)) ?_
    refine GI.rd (Fw.round _) rfl rfl rfl rfl rfl (Pu.rd (pu_move rfl)) ?_
    refine GI.ac (Fw.round _) rfl rfl rfl rfl rfl (ac_lit strC [x] et_23 ek_9 rfl (by repeat constructor) rfl rfl (by decide)) ?_
    rintro _ _ ⟨lb, rfl, rfl⟩
    refine GI.ac (Fw.round _) rfl rfl rfl rfl rfl (ac_append (xs := pre) et_23 ek_9 rfl rfl (by repeat constructor) (SrcH.sl Tryz.underlying23 ek_9 (SlH.own (by repeat constructor))) (by simp; omega) (by simp; omega)) ?_
    rintro _ _ ⟨a2, c2, rfl, rfl⟩
    refine GI.ac0 (Fw.round _) rfl rfl rfl rfl (ac_st sz_23 rfl rfl (by repeat constructor) rfl rfl rfl rfl) ?_
    rintro _ _ rfl
    refine GI.nil ?_
    refine Gs.blk_n ?_
    refine Gs.take (A := pt (w.heap.size + 1) (.loop _)) (by repeat constructor) ?_
    refine Gs.endRound fun w'' s'' => ⟨rfl, t_colJ_fold (a := a2) (c := c2) rfl (Ent.sat (by repeat constructor) s'')⟩
  have satJ : Sat w0 ((w.alloc (.deferred (some []))).alloc (.loop r)) ([t_colJ (w.heap.size + 1) b2 r [], cl b 96 [.map (some m)], mp strV slV m es] ++ (pt w.heap.size (.deferred (some [])) :: R)) := by
    have := sat1.takes (As := [pt (w.heap.size + 1) (.loop r), cl b2 23 [.slice none 0 0], sl 9 1 strC none 0 [], cl b 96 [.map (some m)], mp strV slV m es]) (by repeat constructor)
    exact t_colJ_fold rfl this
  refine ((t_iter_spec hY b m es hl).calls w0 _ _ satJ).mono ?_
  rintro e' w' ⟨v, hs, rfl, ⟨xs, hp, rfl⟩, sat2⟩
  obtain ⟨a', c', s3⟩ := t_colJ_open sat2
  have hend := run_endLoop (P := Tryz.prog) s3.pt (by rw [hr]; simp)
  rw [show r.pending = none by rw [hr]] at hend
  refine ⟨v, _, rfl, hend, ?_⟩
  have s4 : Sat w0 (w'.putObj (w.heap.size + 1) (.loop { r with state := .exhausted, pending := none })) _ := s3.setMap
  have rho : Rho [(2, .pointer (some ⟨b2, 0, none⟩))] a.eval := (e.sub (e := [(2, .pointer (some ⟨b2, 0, none⟩))]) (by repeat constructor)).rho
  refine wp_seq (wp_region_lit ?_)
  refine tail_rd rfl rfl (rd_ld na_23 rfl (Rdc.cl1 (by repeat constructor) rfl)) rho s4 fun w5 s5 => ?_
  have e5 := (e.put (d := 12) (by decide) (.slice a' xs.length c'))
  have rho5 : Rho [(12, .slice a' xs.length c')] (({ a with defers := [{ target := .collected w.heap.size, args := #[] }] ++ a.defers } : Act).put (some 12) (.slice a' xs.length c')).eval :=
    (e5.sub (e := [(12, .slice a' xs.length c')]) (by repeat constructor)).rho
  refine tail_rd rfl rfl (Pu.rd (pu_assign rfl)) rho5 s5 fun w6 s6 => ?_
  have e6 := (e5.put (d := 4) (by decide) (.slice a' xs.length c'))
  refine wp_ret ?_
  have s7 := s6.take (A := pt w.heap.size (.deferred (some []))) (by repeat constructor)
  have hds : a.defers = [] := e.defers
  show LeavesInM Fence.wide 0 _ _ _ _ ({ target := .collected w.heap.size, args := #[] } :: a.defers) .returning w6
  rw [hds]
  refine ⟨by simp, .inl ⟨w.heap.size, _, rfl, run_takeDeferred s7.pt, ?_⟩⟩
  have s8 : Sat w0 (w6.putObj w.heap.size (.deferred none)) _ := s7.setMap (o' := .deferred none)
  refine ⟨_, results_tmp Tryz.results144 _ _ _, _, _, rfl, ⟨xs, a', c', hp, ?_, rfl⟩, Ent.sat (by repeat constructor) s8⟩
  exact e6.slots 4 _ rfl
theorem t_collect_spec (b m : Nat) (es : List (ByteArray × (SlV Int))) (hl : es.length ≤ 100000) :
    Ct Tryz.prog 96 [.func (.func 98) #[] #[.pointer (some ⟨b, 0, none⟩)]]
      [cl b 96 [.map (some m)], mp strV slV m es] (fun v hs => ∃ xs a c, List.Perm xs (mkeys es) ∧ v = .slice a xs.length c ∧ hs = [sl 9 1 strC a c xs, mp strV slV m es]) := by
  refine Ct.intro Tryz.func96 rfl (by kernel_rfl) 5 Tryz.ntmps96 (Nat.le_of_ble_eq_true rfl) fun w0 R => ?_
  refine Gsr ?_
  refine Las rfl rfl ?_
  refine Lnt ?_
  refine Gsr ?_
  refine Lmv rfl rfl ?_
  refine Lac rfl rfl trivial (as_call (t_collect_seq b m es hl) (by repeat constructor) (by repeat constructor)) ?_
  rintro _ _ ⟨_, ⟨xs, a, c, hp, rfl, rfl⟩, rfl⟩
  refine Las rfl rfl ?_
  refine Lnt ?_
  refine Gs.ret ?_
  exact Gs.fin1 Tryz.results96 rfl _ (⟨xs, a, c, hp, rfl, rfl⟩) (by repeat constructor)
end Go.Proofs.YtklgiidfompdpaaGreatDoor
namespace Go.Proofs.YtklgiidfompdpaaGreatDoor
open Go Go.Sl Go.Gv Go.Kv Go.Po Go.Ix
set_option maxRecDepth 100000
/-- What a call of yield does: it takes x over. -/
def w_YOk (P : Program) (l : Nat) (J : List Key → HProp) : Prop := ∀ (pre : List Key) (x : Key) (w0 w : World) (R : List HProp), pre.length < 100000 → Sat w0 w (J pre :: R) → ∃ f tmps assign body, (Instr.yield l #[keyV x]).run P w = .ok (.round l f tmps assign body) w ∧
  ∀ m, RoundIn Fence.wide m P l f tmps assign body w fun e w' => e = .returned (.bool true) ∧ Sat w0 w' (J (pre ++ [x]) :: R)
theorem w_erase_perm {α : Type} : ∀ {l : List α} {i : Nat} {x : α}, l[i]? = some x → List.Perm (x :: l.eraseIdx i) l
  | [], _, _, h => by simp at h
  | a :: l, 0, x, h => by simp at h; subst h; exact List.Perm.refl _
  | a :: l, i + 1, x, h => by
    have := w_erase_perm (l := l) (i := i) (x := x) (by simpa using h)
    exact (List.Perm.swap a x _).trans (this.cons a)
theorem Gs.w_yieldAt {l : Nat} {J : List Key → HProp} (hY : w_YOk Tryz.prog l J) {w0 : World} {n m k dd : Nat} {env : Env} {H : List HProp} {Q : Exit → Act → World → Prop} {ops : Array Oper} {rest : List Nat} {x y : Operand} {ts : Array TypeId} {ty : TypeId} {pos : String} {af : Array Edge} {pre : List Key} (z : Key)
    (hpl : pre.length < 100000) (ho : ops[k]? = some ⟨some dd, .call ⟨.value x, #[y], ts⟩, ty, pos, af, none⟩) (hdn : Nat.blt dd n = true) (hx : ev env x = some (.func (.yield l) #[] #[])) (hy : ev env y = some (keyV z))
    (g : Gs w0 n ((dd, .bool true) :: env) (J (pre ++ [z]) :: H) (wpOpsIn Fence.wide m Tryz.prog ops Q rest)) : Gs w0 n env (J pre :: H) (wpOpsIn Fence.wide m Tryz.prog ops Q (k :: rest)) := fun a w e t => by
  obtain ⟨f, tmps, assign, body, h1, h2⟩ := hY pre z w0 w H hpl t
  have hw : Region.wanted ⟨some dd, .call ⟨.value x, #[y], ts⟩, ty, pos, af, none⟩ (yielded ops a.tmps) = true := by simp [Region.wanted]
  have hr : (execOp a.eval ⟨some dd, .call ⟨.value x, #[y], ts⟩, ty, pos, af, none⟩).run Tryz.prog w = .ok (.round l f tmps assign body) w := by
    show (do let d ← resolve a.eval ⟨.value x, #[y], ts⟩ ty; invoke d.target d.args : Sem Next).run Tryz.prog w = _
    have hr1 : resolve a.eval ⟨.value x, #[y], ts⟩ ty = (pure ⟨.fn (.yield l) #[], #[keyV z]⟩ : Sem Deferred) := by
      simp only [resolve, e.eval hx, Deferred.ofValue]
      simp [e.eval hy]
    rw [hr1]
    simp only [Sem.run_bind, Sem.run_pure, Result.andThen_ok, invoke]
    exact h1
  simp only [wpOpsIn, ho, hw, if_true]
  unfold Oper.wpIn
  refine ⟨fun _ _ => trivial, ?_⟩
  rw [show Fence.wide.round = none from rfl, Oper.semAt_none, hr]
  refine ⟨(fun hs => by cases hs), (h2 (m - 1)).mono ?_⟩
  rintro e' w' ⟨rfl, t'⟩
  exact g _ _ (e.put (by simpa [Nat.blt_eq] using hdn) _) t'
theorem w_keysFn_spec (m : Nat) : Ct Tryz.prog 81 [.map (some m)] []
    (fun v hs => ∃ b, v = .func (.func 136) #[] #[.pointer (some ⟨b, 0, none⟩)] ∧ hs = [cl b 90 [.map (some m)]]) := by
  refine Ct.intro Tryz.func81 rfl (by kernel_rfl) 4 Tryz.ntmps81 (Nat.le_of_ble_eq_true rfl) fun w0 R => ?_
  refine Gsr ?_
  refine Lac rfl rfl trivial (ac_box rfl rfl) ?_
  rintro _ _ ⟨b, rfl, rfl⟩
  refine Las rfl rfl ?_
  refine Lnt ?_
  refine Gsr ?_
  refine Lpu rfl rfl trivial (pu_func (by repeat constructor) (by repeat constructor)) ?_
  refine Las rfl rfl ?_
  refine Lnt ?_
  refine Gs.ret ?_
  exact Gs.fin1 Tryz.results81 rfl _ (⟨b, rfl, rfl⟩) (by repeat constructor)
/-- The iterator: J is carried on over all keys, in some order. -/
theorem w_iter_spec {l : Nat} {J : List Key → HProp} (hY : w_YOk Tryz.prog l J) (b m : Nat) (es : List (Key × (SlV ByteArray))) (hes : es.length ≤ 100000) :
    Ct Tryz.prog 136 [.func (.yield l) #[] #[], .pointer (some ⟨b, 0, none⟩)] [J [], cl b 90 [.map (some m)], mp keyV slV m es]
      (fun _ hs => ∃ xs, List.Perm xs (mkeys es) ∧ hs = [J xs, cl b 90 [.map (some m)], mp keyV slV m es]) := by
  refine Ct.intro Tryz.func136 rfl (by kernel_rfl) 14 Tryz.ntmps136 (Nat.le_of_ble_eq_true rfl) fun w0 R => ?_
  refine Gsr ?_
  refine Lrd rfl rfl trivial (rd_ld na_90 rfl (Rdc.cl1 (by repeat constructor) rfl)) ?_
  refine Lac rfl rfl trivial (ac_range (enck := keyV) (encv := slV) Tryz.underlying90 rfl (by repeat constructor)) ?_
  rintro _ _ ⟨r, rfl, rfl⟩
  refine Lnt ?_
  refine Gs.block ?_
  refine Gs.loop1 (fun s : List Key × List (Key × (SlV ByteArray)) × Option (Key × (SlV ByteArray)) => List.Perm (s.1 ++ mkeys s.2.1) (mkeys es)) (fun s => [(0, .func (.yield l) #[] #[]), (5, .pointer (some ⟨r, 0, none⟩))]) (fun s => [itr keyV slV r m es s.2.1 s.2.2, J s.1, cl b 90 [.map (some m)]] ++ R) (fun s => s.2.1.length) ([], es, none) (List.Perm.refl _) (by repeat constructor) (by repeat constructor) (fun s hs => ?_)
  obtain ⟨pre, left, last⟩ := s
  dsimp only at hs ⊢
  refine Gsr ?_
  refine Lac rfl rfl trivial (ac_next rfl (by repeat constructor)) ?_
  rintro _ _ (⟨hl, rfl, rfl⟩ | ⟨i, p, hp, rfl, rfl⟩)
  ·
   have hl' : left = [] := hl
   subst hl'
   refine Gs.itrEnd (by repeat constructor) ?_
   refine Lpu rfl rfl trivial (pu_extract rfl rfl) ?_
   refine Lnt ?_
   refine Gs.seq ?_
   refine Gs.cond_f rfl ?_
   refine Gs.exit ?_
   refine Gs.then_x ?_
   refine Gs.then_x ?_
   refine Gs.blk_hit ?_
   refine Gs.fin_n ?_
   exact Gs.fin0 Tryz.results136 _ (⟨pre, by simpa [mkeys] using hs, rfl⟩) (by repeat constructor)
  ·
   have hperm : List.Perm ((pre ++ [p.1]) ++ mkeys (left.eraseIdx i)) (mkeys es) := by
     refine List.Perm.trans ?_ hs
     rw [List.append_assoc]
     refine List.Perm.append_left pre ?_
     have h1 : List.Perm (p :: left.eraseIdx i) left := w_erase_perm hp
     exact h1.map Prod.fst
   have hlt : (left.eraseIdx i).length < left.length := by
     have := (List.getElem?_eq_some_iff.1 hp).1
     rw [List.length_eraseIdx_of_lt this]; omega
   have hpl : pre.length < 100000 := by
     have h1 := hs.length_eq
     have h2 := (List.getElem?_eq_some_iff.1 hp).1
     simp [mkeys] at h1; omega
   refine Lpu rfl rfl trivial (pu_extract rfl rfl) ?_
   refine Lnt ?_
   refine Gs.seq ?_
   refine Gs.cond_t rfl ?_
   refine Gs.skip ?_
   refine Gs.then_n ?_
   refine Gs.block ?_
   refine Gsr ?_
   refine Lrd rfl rfl trivial (ac_entry rfl (by repeat constructor)) ?_
   refine Lpu rfl rfl trivial (pu_extract rfl rfl) ?_
   refine Lac rfl rfl trivial (ac_alloc zv_28 rfl) ?_
   rintro _ _ ⟨b3, rfl, rfl⟩
   refine Lac0 rfl trivial (ac_st sz_28 rfl rfl (by repeat constructor) rfl rfl rfl rfl) ?_
   rintro _ _ rfl
   refine Lnt ?_
   refine Gs.seq ?_
   refine Gs.wide (m := 0) ?_
   refine GI.reg [0, 1, 2, 3] rfl ?_
   refine GI.rd Fw.wide rfl rfl rfl rfl rfl (Pu.rd (pu_move rfl)) ?_
   refine GI.rd Fw.wide rfl rfl rfl rfl rfl (rd_lda ag_28 rfl (Rdc.cl 2 (by repeat constructor) rfl) rfl) ?_
   refine Gs.take (A := J pre) (by repeat constructor) ?_
   refine Gs.w_yieldAt hY p.1 hpl rfl rfl rfl rfl ?_
   refine GI.rd Fw.wide rfl rfl rfl rfl rfl (Pu.rd (pu_not rfl)) ?_
   refine GI.nil ?_
   refine Gs.then_n ?_
   refine Gs.cond_f rfl ?_
   refine Gs.skip ?_
   refine Gs.blk_n ?_
   refine Gs.then_n ?_
   exact Gs.again1 (pre ++ [p.1], left.eraseIdx i, some p) hperm hlt (by repeat constructor) (by repeat constructor)
/-- What slices.AppendSeq carries on: its loop's record; its variable; the keys that came. -/
def w_colJ (l b2 : Nat) (r : Loop) (pre : List Key) : HProp := fun h => ∃ p : Option Addr × Nat, two (pt l (.loop r)) (two (cl b2 48 [.slice p.1 pre.length p.2]) (sl 28 2 keyC p.1 p.2 pre)) h
theorem w_colJ_fold {l b2 n : Nat} {r : Loop} {pre : List Key} {a : Option Addr} {c : Nat} {w0 w : World} {L : List HProp} (hn : n = pre.length) (s : Sat w0 w (pt l (.loop r) :: cl b2 48 [.slice a n c] :: sl 28 2 keyC a c pre :: L)) : Sat w0 w (w_colJ l b2 r pre :: L) := by
  subst hn
  have s1 : Sat w0 w (cl b2 48 [.slice a pre.length c] :: sl 28 2 keyC a c pre :: pt l (.loop r) :: L) := (s.take (.tl (.tl .hd))).take (.tl (.tl .hd))
  exact (Sat.two.2 ((Sat.two.2 s1).take (.tl .hd))).ent fun h x => ⟨(a, c), x⟩
theorem w_colJ_open {l b2 : Nat} {r : Loop} {pre : List Key} {w0 w : World} {L : List HProp} (s : Sat w0 w (w_colJ l b2 r pre :: L)) : ∃ a c, Sat w0 w (pt l (.loop r) :: cl b2 48 [.slice a pre.length c] :: sl 28 2 keyC a c pre :: L) := by
  obtain ⟨p, s1⟩ := s.ex
  have s2 := Sat.two.1 ((Sat.two.1 s1).take (.tl .hd))
  exact ⟨p.1, p.2, s2.take (.tl (.tl .hd))⟩
theorem w_collect_seq (b m : Nat) (es : List (Key × (SlV ByteArray))) (hl : es.length ≤ 100000) :
    Ct Tryz.prog 180 [.slice none 0 0, .func (.func 136) #[] #[.pointer (some ⟨b, 0, none⟩)]]
      [cl b 90 [.map (some m)], mp keyV slV m es] (fun v hs => ∃ xs a c, List.Perm xs (mkeys es) ∧ v = .slice a xs.length c ∧ hs = [sl 28 2 keyC a c xs, mp keyV slV m es]) := by
  refine Ct.introM Tryz.func180 rfl (by kernel_rfl) 13 Tryz.ntmps180 (Nat.le_of_ble_eq_true rfl) fun w0 R => ?_
  refine Gsr ?_
  refine Lac rfl rfl trivial (ac_box rfl rfl) ?_
  rintro _ _ ⟨b2, rfl, rfl⟩
  refine Las rfl rfl ?_
  refine Lnt ?_
  refine Gs.seq ?_
  refine Gsr ?_
  refine Lmv rfl rfl ?_
  refine Lnt ?_
  refine Gs.block ?_
  refine Gs.slNil 28 2 keyC ?_
  intro a w e s
  have hen : ∀ args w, (callFunc 136 args).run Tryz.prog w = .ok (.enter 136 args) w := Go.Proofs.enters_of Tryz.func136 (by kernel_rfl) rfl
  have he : a.eval (.tmp 6) = .func (.func 136) #[] #[.pointer (some ⟨b, 0, none⟩)] := e.eval rfl
  refine wp_rangeCall he hen fun fn r hr => ?_
  have sat1 := s.alloc2 (.deferred (some [])) (.loop r)
  have hY : w_YOk Tryz.prog (w.heap.size + 1) (w_colJ (w.heap.size + 1) b2 r) := by
    intro pre x w1 w' R' hpl hs
    obtain ⟨a', c', s1⟩ := w_colJ_open hs
    refine ⟨r.fn, _, r.assign, r.body, run_yield s1.pt (by rw [hr]; rfl), fun m => roundIn_of_wpIn trivial ?_⟩
    have ht : (r.params.zip #[keyV x]).foldl (fun tmps (t, a) => tmps.setIfInBounds t a) r.tmps = (a.put (some 7) (keyV x)).tmps := by rw [hr]; simp [Act.put]
    have e7 : EnvOk 13 [(7, keyV x), (2, .pointer (some ⟨b2, 0, none⟩))] ⟨(r.params.zip #[keyV x]).foldl (fun tmps (t, a) => tmps.setIfInBounds t a) r.tmps, []⟩ := by
      rw [ht]
      have e8 := (e.put (d := 7) (by decide) (keyV x)).sub (e := [(7, keyV x), (2, .pointer (some ⟨b2, 0, none⟩))]) (by repeat constructor)
      exact ⟨e8.size, rfl, e8.slots⟩
    refine (?_ : Gs w1 13 [(7, keyV x), (2, .pointer (some ⟨b2, 0, none⟩))] _ _) _ _ e7 s1
    subst hr
    refine GI.reg [0, 1] rfl ?_
    refine GI.ac (Fw.round _) rfl rfl rfl rfl rfl (ac_alloc zv_28 rfl) ?_
    rintro _ _ ⟨b5, rfl, rfl⟩
    refine GI.ac0 (Fw.round _) rfl rfl rfl rfl (ac_st sz_28 rfl rfl (by repeat constructor) rfl rfl rfl rfl) ?_
    rintro _ _ rfl
    refine GI.nil ?_
    refine Gs.then_n ?_
    refine Gs.take (.tl .hd) ?_
    refine Gs.begin rfl ?_
    refine GI.block ?_
    refine GI.reg [0, 1, 2, 3, 4] rfl ?_
    refine GI.rd (Fw.round _) rfl rfl rfl rfl rfl (rd_ld na_48 rfl (Rdc.cl1 (by repeat constructor) rfl)) ?_
    refine GI.rd (Fw.round _) rfl rfl rfl rfl rfl (rd_lda ag_28 rfl (Rdc.cl 2 (by repeat constructor) rfl) rfl) ?_
    refine GI.ac (Fw.round _) rfl rfl rfl rfl rfl (ac_lit keyC [x] et_48 ek_28 rfl (by repeat constructor) rfl rfl (by decide)) ?_
    rintro _ _ ⟨lb, rfl, rfl⟩
    refine GI.ac (Fw.round _) rfl rfl rfl rfl rfl (ac_append (xs := pre) et_48 ek_28 rfl rfl (by repeat constructor) (SrcH.sl Tryz.underlying48 ek_28 (SlH.own (by repeat constructor))) (by simp; omega) (by simp; omega)) ?_
    rintro _ _ ⟨a2, c2, rfl, rfl⟩
    refine GI.ac0 (Fw.round _) rfl rfl rfl rfl (ac_st sz_48 rfl rfl (by repeat constructor) rfl rfl rfl rfl) ?_
    rintro _ _ rfl
    refine GI.nil ?_
    refine Gs.blk_n ?_
    refine Gs.take (A := pt (w.heap.size + 1) (.loop _)) (by repeat constructor) ?_
    refine Gs.endRound fun w'' s'' => ⟨rfl, w_colJ_fold (a := a2) (c := c2) rfl (Ent.sat (by repeat constructor) s'')⟩
  have satJ : Sat w0 ((w.alloc (.deferred (some []))).alloc (.loop r)) ([w_colJ (w.heap.size + 1) b2 r [], cl b 90 [.map (some m)], mp keyV slV m es] ++ (pt w.heap.size (.deferred (some [])) :: R)) := by
    have := sat1.takes (As := [pt (w.heap.size + 1) (.loop r), cl b2 48 [.slice none 0 0], sl 28 2 keyC none 0 [], cl b 90 [.map (some m)], mp keyV slV m es]) (by repeat constructor)
    exact w_colJ_fold rfl this
  refine ((w_iter_spec hY b m es hl).calls w0 _ _ satJ).mono ?_
  rintro e' w' ⟨v, hs, rfl, ⟨xs, hp, rfl⟩, sat2⟩
  obtain ⟨a', c', s3⟩ := w_colJ_open sat2
  have hend := run_endLoop (P := Tryz.prog) s3.pt (by rw [hr]; simp)
  rw [show r.pending = none by rw [hr]] at hend
  refine ⟨v, _, rfl, hend, ?_⟩
  have s4 : Sat w0 (w'.putObj (w.heap.size + 1) (.loop { r with state := .exhausted, pending := none })) _ := s3.setMap
  have rho : Rho [(2, .pointer (some ⟨b2, 0, none⟩))] a.eval := (e.sub (e := [(2, .pointer (some ⟨b2, 0, none⟩))]) (by repeat constructor)).rho
  refine wp_seq (wp_region_lit ?_)
  refine tail_rd rfl rfl (rd_ld na_48 rfl (Rdc.cl1 (by repeat constructor) rfl)) rho s4 fun w5 s5 => ?_
  have e5 := (e.put (d := 12) (by decide) (.slice a' xs.length c'))
  have rho5 : Rho [(12, .slice a' xs.length c')] (({ a with defers := [{ target := .collected w.heap.size, args := #[] }] ++ a.defers } : Act).put (some 12) (.slice a' xs.length c')).eval :=
    (e5.sub (e := [(12, .slice a' xs.length c')]) (by repeat constructor)).rho
  refine tail_rd rfl rfl (Pu.rd (pu_assign rfl)) rho5 s5 fun w6 s6 => ?_
  have e6 := (e5.put (d := 4) (by decide) (.slice a' xs.length c'))
  refine wp_ret ?_
  have s7 := s6.take (A := pt w.heap.size (.deferred (some []))) (by repeat constructor)
  have hds : a.defers = [] := e.defers
  show LeavesInM Fence.wide 0 _ _ _ _ ({ target := .collected w.heap.size, args := #[] } :: a.defers) .returning w6
  rw [hds]
  refine ⟨by simp, .inl ⟨w.heap.size, _, rfl, run_takeDeferred s7.pt, ?_⟩⟩
  have s8 : Sat w0 (w6.putObj w.heap.size (.deferred none)) _ := s7.setMap (o' := .deferred none)
  refine ⟨_, results_tmp Tryz.results180 _ _ _, _, _, rfl, ⟨xs, a', c', hp, ?_, rfl⟩, Ent.sat (by repeat constructor) s8⟩
  exact e6.slots 4 _ rfl
theorem w_collect_spec (b m : Nat) (es : List (Key × (SlV ByteArray))) (hl : es.length ≤ 100000) :
    Ct Tryz.prog 134 [.func (.func 136) #[] #[.pointer (some ⟨b, 0, none⟩)]]
      [cl b 90 [.map (some m)], mp keyV slV m es] (fun v hs => ∃ xs a c, List.Perm xs (mkeys es) ∧ v = .slice a xs.length c ∧ hs = [sl 28 2 keyC a c xs, mp keyV slV m es]) := by
  refine Ct.intro Tryz.func134 rfl (by kernel_rfl) 5 Tryz.ntmps134 (Nat.le_of_ble_eq_true rfl) fun w0 R => ?_
  refine Gsr ?_
  refine Las rfl rfl ?_
  refine Lnt ?_
  refine Gsr ?_
  refine Lmv rfl rfl ?_
  refine Lac rfl rfl trivial (as_call (w_collect_seq b m es hl) (by repeat constructor) (by repeat constructor)) ?_
  rintro _ _ ⟨_, ⟨xs, a, c, hp, rfl, rfl⟩, rfl⟩
  refine Las rfl rfl ?_
  refine Lnt ?_
  refine Gs.ret ?_
  exact Gs.fin1 Tryz.results134 rfl _ (⟨xs, a, c, hp, rfl, rfl⟩) (by repeat constructor)
end Go.Proofs.YtklgiidfompdpaaGreatDoor
namespace Go.Bst
def sortB (l : List ByteArray) : List ByteArray := ((l.map fun s => s.data.toList).mergeSort fun x y => decide (x ≤ y)).map fun b => ⟨b.toArray⟩
theorem of_list (s : ByteArray) : (⟨s.data.toList.toArray⟩ : ByteArray) = s := by cases s; rfl
theorem sortB_perm (l : List ByteArray) : List.Perm (sortB l) l := by
  unfold sortB
  refine ((List.mergeSort_perm _ _).map _).trans ?_
  rw [List.map_map]
  have : ((fun b : List UInt8 => (⟨b.toArray⟩ : ByteArray)) ∘ fun s : ByteArray => s.data.toList) = id := by funext s; exact of_list s
  rw [this, List.map_id]
theorem sortB_mem {l : List ByteArray} {x : ByteArray} : x ∈ sortB l ↔ x ∈ l := (sortB_perm l).mem_iff
theorem sortB_length {l : List ByteArray} : (sortB l).length = l.length := (sortB_perm l).length_eq
theorem sortB_of_perm {l m : List ByteArray} (p : List.Perm l m) : sortB l = sortB m := by
  unfold sortB
  congr 1
  have tr : ∀ a b c : List UInt8, decide (a ≤ b) = true → decide (b ≤ c) = true → decide (a ≤ c) = true := fun a b c h1 h2 => by
    simp only [decide_eq_true_eq] at *; exact List.le_trans h1 h2
  have tot : ∀ a b : List UInt8, (decide (a ≤ b) || decide (b ≤ a)) = true := fun a b => by
    rcases List.le_total a b with h | h <;> simp [h]
  refine List.Perm.eq_of_pairwise (le := fun x y => decide (x ≤ y) = true) ?_ (List.pairwise_mergeSort tr tot _) (List.pairwise_mergeSort tr tot _) (((List.mergeSort_perm _ _).trans (p.map _)).trans (List.mergeSort_perm _ _).symm)
  intro a b _ _ h1 h2
  simp only [decide_eq_true_eq] at h1 h2
  exact List.le_antisymm h1 h2
end Go.Bst
