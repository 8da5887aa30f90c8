/- What the closing leans on: part 5. -/
import Derived.Shelf.Unicode.ValidAny
import Derived.Shelf.Strings.Runes
import Derived.Shelf.Strings.FieldsFuncGrows
import Derived.Shelf.Unicode.PredsPay
import Derived.Shelf.Unicode.CaseLaid
import Derived.Shelf.Strings.BuilderK
import Derived.Shelf.Strings.BuilderRune
import Derived.Shelf.Strings.Prefix
import Derived.Shelf.SlLaysF0
import Derived.Ground.SlsfProg
import Derived.Shelf.Slices.In.SortNone
import Derived.Shelf.Sort.Plain
import Derived.Test.YtflfhpokmidnmaaGreatDoorProg
import Derived.Test.YtflfhpokmidnmaaGreatDoorXc
import Derived.Test.YtflfhpokmidnmaaGreatDoorXd
import Derived.Sort.Grow
import Derived.WalkMore
import Derived.RangeFuncRecord
import Derived.RangeFuncIn
import Derived.RangeFuncLeaves
import Derived.RangeFuncCalls
import Derived.Shelf.SlSortCmp.NoneTotal
namespace Go.Proofs
open Go.Shelf
def Tryz.laysValid_ren : Go.Shelf.Ren := ⟨fun | 196 => 66 | 259 => 105 | n => n, fun | 9 => 9 | 4 => 4 | 3 => 3 | 5 => 5 | 12 => 12 | 119 => 176 | 0 => 0 | 46 => 65 | 139 => 179 | 138 => 178 | 53 => 165 | n => n, fun | 3 => 0 | 4 => 1 | n => n⟩
theorem Tryz.laysValid : Go.Proofs.Lays.n196 Tryz.prog Tryz.laysValid_ren := {
 mixed := by kernel_rfl
 f196 := Tryz.func66.trans (congrArg some (by kernel_rfl))
 f259 := Tryz.func105.trans (congrArg some (by kernel_rfl))
 t0 := Tryz.underlying0
 a0 := Tryz.isAgg0
 z0 := Tryz.sizeOf0
 v0 := Tryz.zeroValue0
 t3 := Tryz.underlying3
 a3 := Tryz.isAgg3
 z3 := Tryz.sizeOf3
 v3 := Tryz.zeroValue3
 t4 := Tryz.underlying4
 a4 := Tryz.isAgg4
 z4 := Tryz.sizeOf4
 v4 := Tryz.zeroValue4
 t5 := Tryz.underlying5
 a5 := Tryz.isAgg5
 z5 := Tryz.sizeOf5
 v5 := Tryz.zeroValue5
 t9 := Tryz.underlying9
 a9 := Tryz.isAgg9
 z9 := Tryz.sizeOf9
 v9 := Tryz.zeroValue9
 t12 := Tryz.underlying12
 a12 := Tryz.isAgg12
 z12 := Tryz.sizeOf12
 v12 := Tryz.zeroValue12
 t46 := Tryz.underlying65
 a46 := Tryz.isAgg65
 z46 := Tryz.sizeOf65
 v46 := Tryz.zeroValue65
 t53 := Tryz.underlying165
 a53 := Tryz.isAgg165
 z53 := Tryz.sizeOf165
 v53 := Tryz.zeroValue165
 t119 := Tryz.underlying176
 a119 := Tryz.isAgg176
 z119 := Tryz.sizeOf176
 t138 := Tryz.underlying178
 a138 := Tryz.isAgg178
 z138 := Tryz.sizeOf178
 v138 := Tryz.zeroValue178
 t139 := Tryz.underlying179
 a139 := Tryz.isAgg179
 z139 := Tryz.sizeOf179
 v139 := Tryz.zeroValue179
 g3 := by kernel_rfl
 g4 := by kernel_rfl }
def Tryz.laysCtRune_ren : Go.Shelf.Ren := ⟨fun | 151 => 163 | 152 => 204 | 137 => 230 | 119 => 231 | 224 => 232 | 225 => 233 | 217 => 246 | 266 => 253 | n => n, fun | 9 => 9 | 21 => 21 | 4 => 4 | 3 => 3 | 5 => 5 | 0 => 0 | 46 => 65 | n => n, fun | n => n⟩
theorem Tryz.laysCtRune : Go.Proofs.Lays.n151 Tryz.prog Tryz.laysCtRune_ren := {
 mixed := by kernel_rfl
 f119 := Tryz.func231.trans (congrArg some (by kernel_rfl))
 f137 := Tryz.func230.trans (congrArg some (by kernel_rfl))
 f151 := Tryz.func163.trans (congrArg some (by kernel_rfl))
 f152 := Tryz.func204.trans (congrArg some (by kernel_rfl))
 f217 := Tryz.func246.trans (congrArg some (by kernel_rfl))
 f224 := Tryz.func232.trans (congrArg some (by kernel_rfl))
 f225 := Tryz.func233.trans (congrArg some (by kernel_rfl))
 f266 := Tryz.func253.trans (congrArg some (by kernel_rfl))
 t0 := Tryz.underlying0
 a0 := Tryz.isAgg0
 z0 := Tryz.sizeOf0
 v0 := Tryz.zeroValue0
 t3 := Tryz.underlying3
 a3 := Tryz.isAgg3
 z3 := Tryz.sizeOf3
 v3 := Tryz.zeroValue3
 t4 := Tryz.underlying4
 a4 := Tryz.isAgg4
 z4 := Tryz.sizeOf4
 v4 := Tryz.zeroValue4
 t5 := Tryz.underlying5
 a5 := Tryz.isAgg5
 z5 := Tryz.sizeOf5
 v5 := Tryz.zeroValue5
 t9 := Tryz.underlying9
 a9 := Tryz.isAgg9
 z9 := Tryz.sizeOf9
 v9 := Tryz.zeroValue9
 t21 := Tryz.underlying21
 a21 := Tryz.isAgg21
 z21 := Tryz.sizeOf21
 v21 := Tryz.zeroValue21
 t46 := Tryz.underlying65
 a46 := Tryz.isAgg65
 z46 := Tryz.sizeOf65
 v46 := Tryz.zeroValue65 }
def Tryz.laysFF_ren : Go.Shelf.Ren := ⟨fun | 229 => 165 | n => n, fun | 9 => 9 | 40 => 251 | 31 => 22 | 152 => 290 | 3 => 3 | 0 => 0 | 4 => 4 | 21 => 21 | 154 => 292 | n => n, fun | n => n⟩
theorem Tryz.laysFF : Go.Proofs.Lays.n229 Tryz.prog Tryz.laysFF_ren := {
 mixed := by kernel_rfl
 f229 := Tryz.func165.trans (congrArg some (by kernel_rfl))
 t0 := Tryz.underlying0
 a0 := Tryz.isAgg0
 z0 := Tryz.sizeOf0
 v0 := Tryz.zeroValue0
 t3 := Tryz.underlying3
 a3 := Tryz.isAgg3
 z3 := Tryz.sizeOf3
 v3 := Tryz.zeroValue3
 t4 := Tryz.underlying4
 a4 := Tryz.isAgg4
 z4 := Tryz.sizeOf4
 v4 := Tryz.zeroValue4
 t9 := Tryz.underlying9
 a9 := Tryz.isAgg9
 z9 := Tryz.sizeOf9
 v9 := Tryz.zeroValue9
 t21 := Tryz.underlying21
 a21 := Tryz.isAgg21
 z21 := Tryz.sizeOf21
 v21 := Tryz.zeroValue21
 t31 := Tryz.underlying22
 a31 := Tryz.isAgg22
 z31 := Tryz.sizeOf22
 v31 := Tryz.zeroValue22
 t40 := Tryz.underlying251
 a40 := Tryz.isAgg251
 z40 := Tryz.sizeOf251
 v40 := Tryz.zeroValue251
 t152 := Tryz.underlying290
 a152 := Tryz.isAgg290
 z152 := Tryz.sizeOf290
 v152 := Tryz.zeroValue290
 t154 := Tryz.underlying292
 a154 := Tryz.isAgg292
 z154 := Tryz.sizeOf292
 v154 := Tryz.zeroValue292 }
def Tryz.laysLetter_ren : Go.Shelf.Ren := ⟨fun | 200 => 235 | 261 => 247 | 311 => 254 | 312 => 255 | n => n, fun | 21 => 21 | 4 => 4 | 51 => 268 | 5 => 5 | 119 => 176 | 0 => 0 | 141 => 331 | 196 => 339 | 193 => 336 | 3 => 3 | 198 => 342 | 49 => 340 | 194 => 337 | 201 => 345 | 226 => 352 | 46 => 65 | 227 => 353 | n => n, fun | 7 => 6 | 8 => 7 | n => n⟩
theorem Tryz.laysLetter : Go.Proofs.Lays.n200 Tryz.prog Tryz.laysLetter_ren := {
 mixed := by kernel_rfl
 f200 := Tryz.func235.trans (congrArg some (by kernel_rfl))
 f261 := Tryz.func247.trans (congrArg some (by kernel_rfl))
 f311 := Tryz.func254.trans (congrArg some (by kernel_rfl))
 f312 := Tryz.func255.trans (congrArg some (by kernel_rfl))
 t0 := Tryz.underlying0
 a0 := Tryz.isAgg0
 z0 := Tryz.sizeOf0
 v0 := Tryz.zeroValue0
 t3 := Tryz.underlying3
 a3 := Tryz.isAgg3
 z3 := Tryz.sizeOf3
 v3 := Tryz.zeroValue3
 t4 := Tryz.underlying4
 a4 := Tryz.isAgg4
 z4 := Tryz.sizeOf4
 v4 := Tryz.zeroValue4
 t5 := Tryz.underlying5
 a5 := Tryz.isAgg5
 z5 := Tryz.sizeOf5
 v5 := Tryz.zeroValue5
 t21 := Tryz.underlying21
 a21 := Tryz.isAgg21
 z21 := Tryz.sizeOf21
 v21 := Tryz.zeroValue21
 t46 := Tryz.underlying65
 a46 := Tryz.isAgg65
 z46 := Tryz.sizeOf65
 v46 := Tryz.zeroValue65
 t49 := Tryz.underlying340
 a49 := Tryz.isAgg340
 z49 := Tryz.sizeOf340
 v49 := Tryz.zeroValue340
 t51 := Tryz.underlying268
 a51 := Tryz.isAgg268
 z51 := Tryz.sizeOf268
 v51 := Tryz.zeroValue268
 t119 := Tryz.underlying176
 a119 := Tryz.isAgg176
 z119 := Tryz.sizeOf176
 t141 := Tryz.underlying331
 a141 := Tryz.isAgg331
 z141 := Tryz.sizeOf331
 v141 := Tryz.zeroValue331
 t193 := Tryz.underlying336
 a193 := Tryz.isAgg336
 z193 := Tryz.sizeOf336
 v193 := Tryz.zeroValue336
 t194 := Tryz.underlying337
 a194 := Tryz.isAgg337
 z194 := Tryz.sizeOf337
 v194 := Tryz.zeroValue337
 t196 := Tryz.underlying339
 a196 := Tryz.isAgg339
 z196 := Tryz.sizeOf339
 v196 := Tryz.zeroValue339
 t198 := Tryz.underlying342
 a198 := Tryz.isAgg342
 z198 := Tryz.sizeOf342
 v198 := Tryz.zeroValue342
 t201 := Tryz.underlying345
 a201 := Tryz.isAgg345
 z201 := Tryz.sizeOf345
 v201 := Tryz.zeroValue345
 t226 := Tryz.underlying352
 a226 := Tryz.isAgg352
 z226 := Tryz.sizeOf352
 v226 := Tryz.zeroValue352
 t227 := Tryz.underlying353
 a227 := Tryz.isAgg353
 z227 := Tryz.sizeOf353
 v227 := Tryz.zeroValue353
 g7 := by kernel_rfl
 g8 := by kernel_rfl }
def Tryz.laysDigit_ren : Go.Shelf.Ren := ⟨fun | 198 => 236 | 261 => 247 | 311 => 254 | 312 => 255 | n => n, fun | 21 => 21 | 4 => 4 | 141 => 331 | 0 => 0 | 196 => 339 | 193 => 336 | 3 => 3 | 51 => 268 | 198 => 342 | 49 => 340 | 194 => 337 | 201 => 345 | 226 => 352 | 46 => 65 | 227 => 353 | n => n, fun | 5 => 8 | n => n⟩
theorem Tryz.laysDigit : Go.Proofs.Lays.n198 Tryz.prog Tryz.laysDigit_ren := {
 mixed := by kernel_rfl
 f198 := Tryz.func236.trans (congrArg some (by kernel_rfl))
 f261 := Tryz.func247.trans (congrArg some (by kernel_rfl))
 f311 := Tryz.func254.trans (congrArg some (by kernel_rfl))
 f312 := Tryz.func255.trans (congrArg some (by kernel_rfl))
 t0 := Tryz.underlying0
 a0 := Tryz.isAgg0
 z0 := Tryz.sizeOf0
 v0 := Tryz.zeroValue0
 t3 := Tryz.underlying3
 a3 := Tryz.isAgg3
 z3 := Tryz.sizeOf3
 v3 := Tryz.zeroValue3
 t4 := Tryz.underlying4
 a4 := Tryz.isAgg4
 z4 := Tryz.sizeOf4
 v4 := Tryz.zeroValue4
 t21 := Tryz.underlying21
 a21 := Tryz.isAgg21
 z21 := Tryz.sizeOf21
 v21 := Tryz.zeroValue21
 t46 := Tryz.underlying65
 a46 := Tryz.isAgg65
 z46 := Tryz.sizeOf65
 v46 := Tryz.zeroValue65
 t49 := Tryz.underlying340
 a49 := Tryz.isAgg340
 z49 := Tryz.sizeOf340
 v49 := Tryz.zeroValue340
 t51 := Tryz.underlying268
 a51 := Tryz.isAgg268
 z51 := Tryz.sizeOf268
 v51 := Tryz.zeroValue268
 t141 := Tryz.underlying331
 a141 := Tryz.isAgg331
 z141 := Tryz.sizeOf331
 v141 := Tryz.zeroValue331
 t193 := Tryz.underlying336
 a193 := Tryz.isAgg336
 z193 := Tryz.sizeOf336
 v193 := Tryz.zeroValue336
 t194 := Tryz.underlying337
 a194 := Tryz.isAgg337
 z194 := Tryz.sizeOf337
 v194 := Tryz.zeroValue337
 t196 := Tryz.underlying339
 a196 := Tryz.isAgg339
 z196 := Tryz.sizeOf339
 v196 := Tryz.zeroValue339
 t198 := Tryz.underlying342
 a198 := Tryz.isAgg342
 z198 := Tryz.sizeOf342
 v198 := Tryz.zeroValue342
 t201 := Tryz.underlying345
 a201 := Tryz.isAgg345
 z201 := Tryz.sizeOf345
 v201 := Tryz.zeroValue345
 t226 := Tryz.underlying352
 a226 := Tryz.isAgg352
 z226 := Tryz.sizeOf352
 v226 := Tryz.zeroValue352
 t227 := Tryz.underlying353
 a227 := Tryz.isAgg353
 z227 := Tryz.sizeOf353
 v227 := Tryz.zeroValue353
 g5 := by kernel_rfl }
def Tryz.laysLower_ren : Go.Shelf.Ren := ⟨fun | 204 => 208 | 262 => 238 | 313 => 249 | 274 => 256 | 275 => 257 | n => n, fun | 21 => 21 | 4 => 4 | 3 => 3 | 162 => 334 | 203 => 332 | 160 => 347 | 46 => 65 | 0 => 0 | 208 => 357 | 51 => 268 | 206 => 355 | n => n, fun | 13 => 9 | n => n⟩
theorem Tryz.laysLower : Go.Proofs.Lays.n204 Tryz.prog Tryz.laysLower_ren := {
 mixed := by kernel_rfl
 f204 := Tryz.func208.trans (congrArg some (by kernel_rfl))
 f262 := Tryz.func238.trans (congrArg some (by kernel_rfl))
 f274 := Tryz.func256.trans (congrArg some (by kernel_rfl))
 f275 := Tryz.func257.trans (congrArg some (by kernel_rfl))
 f313 := Tryz.func249.trans (congrArg some (by kernel_rfl))
 t0 := Tryz.underlying0
 a0 := Tryz.isAgg0
 z0 := Tryz.sizeOf0
 v0 := Tryz.zeroValue0
 t3 := Tryz.underlying3
 a3 := Tryz.isAgg3
 z3 := Tryz.sizeOf3
 v3 := Tryz.zeroValue3
 t4 := Tryz.underlying4
 a4 := Tryz.isAgg4
 z4 := Tryz.sizeOf4
 v4 := Tryz.zeroValue4
 t21 := Tryz.underlying21
 a21 := Tryz.isAgg21
 z21 := Tryz.sizeOf21
 v21 := Tryz.zeroValue21
 t46 := Tryz.underlying65
 a46 := Tryz.isAgg65
 z46 := Tryz.sizeOf65
 v46 := Tryz.zeroValue65
 t51 := Tryz.underlying268
 a51 := Tryz.isAgg268
 z51 := Tryz.sizeOf268
 v51 := Tryz.zeroValue268
 t160 := Tryz.underlying347
 a160 := Tryz.isAgg347
 z160 := Tryz.sizeOf347
 v160 := Tryz.zeroValue347
 t162 := Tryz.underlying334
 a162 := Tryz.isAgg334
 z162 := Tryz.sizeOf334
 v162 := Tryz.zeroValue334
 t203 := Tryz.underlying332
 a203 := Tryz.isAgg332
 z203 := Tryz.sizeOf332
 v203 := Tryz.zeroValue332
 t206 := Tryz.underlying355
 a206 := Tryz.isAgg355
 z206 := Tryz.sizeOf355
 v206 := Tryz.zeroValue355
 t208 := Tryz.underlying357
 a208 := Tryz.isAgg357
 z208 := Tryz.sizeOf357
 v208 := Tryz.zeroValue357
 g13 := by kernel_rfl }
def Tryz.laysBS_ren : Go.Shelf.Ren := ⟨fun | 169 => 161 | n => n, fun | 70 => 247 | 9 => 9 | 0 => 0 | 72 => 249 | 37 => 83 | 127 => 287 | 3 => 3 | 5 => 5 | n => n, fun | n => n⟩
theorem Tryz.laysBS : Go.Proofs.Lays.n169 Tryz.prog Tryz.laysBS_ren := {
 mixed := by kernel_rfl
 f169 := Tryz.func161.trans (congrArg some (by kernel_rfl))
 t0 := Tryz.underlying0
 a0 := Tryz.isAgg0
 z0 := Tryz.sizeOf0
 v0 := Tryz.zeroValue0
 t3 := Tryz.underlying3
 a3 := Tryz.isAgg3
 z3 := Tryz.sizeOf3
 v3 := Tryz.zeroValue3
 t9 := Tryz.underlying9
 a9 := Tryz.isAgg9
 z9 := Tryz.sizeOf9
 v9 := Tryz.zeroValue9
 t37 := Tryz.underlying83
 a37 := Tryz.isAgg83
 z37 := Tryz.sizeOf83
 v37 := Tryz.zeroValue83
 t70 := Tryz.underlying247
 a70 := Tryz.isAgg247
 z70 := Tryz.sizeOf247
 v70 := Tryz.zeroValue247
 t72 := Tryz.underlying249
 a72 := Tryz.isAgg249
 z72 := Tryz.sizeOf249
 v72 := Tryz.zeroValue249
 t127 := Tryz.underlying287
 a127 := Tryz.isAgg287
 z127 := Tryz.sizeOf287
 v127 := Tryz.zeroValue287 }
def Tryz.laysHP_ren : Go.Shelf.Ren := ⟨fun | 99 => 86 | 206 => 123 | n => n, fun | 9 => 9 | 4 => 4 | 3 => 3 | n => n, fun | n => n⟩
theorem Tryz.laysHP : Go.Proofs.Lays.n99 Tryz.prog Tryz.laysHP_ren := {
 mixed := by kernel_rfl
 f99 := Tryz.func86.trans (congrArg some (by kernel_rfl))
 f206 := Tryz.func123.trans (congrArg some (by kernel_rfl))
 t3 := Tryz.underlying3
 a3 := Tryz.isAgg3
 z3 := Tryz.sizeOf3
 v3 := Tryz.zeroValue3
 t4 := Tryz.underlying4
 a4 := Tryz.isAgg4
 z4 := Tryz.sizeOf4
 v4 := Tryz.zeroValue4
 t9 := Tryz.underlying9
 a9 := Tryz.isAgg9
 z9 := Tryz.sizeOf9
 v9 := Tryz.zeroValue9 }
def Tryz.sortKeys_ren : Go.Shelf.Ren := ⟨fun | 6 => 121 | 15 => 143 | 14 => 146 | 28 => 184 | 29 => 185 | 20 => 186 | 21 => 187 | 22 => 188 | 23 => 189 | 24 => 190 | 25 => 191 | 26 => 192 | 27 => 193 | 46 => 218 | 47 => 213 | 48 => 214 | 49 => 219 | 50 => 220 | 57 => 241 | n => n, fun | 22 => 54 | 24 => 35 | 25 => 137 | 3 => 3 | 39 => 65 | 0 => 0 | 53 => 268 | 55 => 165 | 4 => 4 | 46 => 263 | 45 => 262 | 50 => 257 | 5 => 5 | 9 => 9 | 66 => 297 | 70 => 301 | 76 => 323 | 77 => 324 | n => n, fun | n => n⟩
theorem Tryz.sortKeys : Go.Proofs.SlLaysF0.n6 Tryz.prog Tryz.sortKeys_ren := {
 mixed := by kernel_rfl
 f6 := ⟨Tryz.f121.name, by decide, Tryz.func121.trans (congrArg some (by kernel_rfl))⟩
 f14 := ⟨Tryz.f146.name, by decide, Tryz.func146.trans (congrArg some (by kernel_rfl))⟩
 f15 := Tryz.func143.trans (congrArg some (by kernel_rfl))
 f20 := ⟨Tryz.f186.name, by decide, Tryz.func186.trans (congrArg some (by kernel_rfl))⟩
 f21 := ⟨Tryz.f187.name, by decide, Tryz.func187.trans (congrArg some (by kernel_rfl))⟩
 f22 := ⟨Tryz.f188.name, by decide, Tryz.func188.trans (congrArg some (by kernel_rfl))⟩
 f23 := ⟨Tryz.f189.name, by decide, Tryz.func189.trans (congrArg some (by kernel_rfl))⟩
 f24 := ⟨Tryz.f190.name, by decide, Tryz.func190.trans (congrArg some (by kernel_rfl))⟩
 f25 := ⟨Tryz.f191.name, by decide, Tryz.func191.trans (congrArg some (by kernel_rfl))⟩
 f26 := ⟨Tryz.f192.name, by decide, Tryz.func192.trans (congrArg some (by kernel_rfl))⟩
 f27 := ⟨Tryz.f193.name, by decide, Tryz.func193.trans (congrArg some (by kernel_rfl))⟩
 f28 := Tryz.func184.trans (congrArg some (by kernel_rfl))
 f29 := Tryz.func185.trans (congrArg some (by kernel_rfl))
 f46 := ⟨Tryz.f218.name, by decide, Tryz.func218.trans (congrArg some (by kernel_rfl))⟩
 f47 := Tryz.func213.trans (congrArg some (by kernel_rfl))
 f48 := Tryz.func214.trans (congrArg some (by kernel_rfl))
 f49 := ⟨Tryz.f219.name, by decide, Tryz.func219.trans (congrArg some (by kernel_rfl))⟩
 f50 := ⟨Tryz.f220.name, by decide, Tryz.func220.trans (congrArg some (by kernel_rfl))⟩
 f57 := ⟨Tryz.f241.name, by decide, Tryz.func241.trans (congrArg some (by kernel_rfl))⟩
 t0 := Tryz.underlying0
 a0 := Tryz.isAgg0
 z0 := Tryz.sizeOf0
 v0 := Tryz.zeroValue0
 t3 := Tryz.underlying3
 a3 := Tryz.isAgg3
 z3 := Tryz.sizeOf3
 v3 := Tryz.zeroValue3
 t4 := Tryz.underlying4
 a4 := Tryz.isAgg4
 z4 := Tryz.sizeOf4
 v4 := Tryz.zeroValue4
 t5 := Tryz.underlying5
 a5 := Tryz.isAgg5
 z5 := Tryz.sizeOf5
 v5 := Tryz.zeroValue5
 t9 := Tryz.underlying9
 a9 := Tryz.isAgg9
 z9 := Tryz.sizeOf9
 v9 := Tryz.zeroValue9
 t22 := Tryz.underlying54
 a22 := Tryz.isAgg54
 z22 := Tryz.sizeOf54
 v22 := Tryz.zeroValue54
 t25 := Tryz.underlying137
 a25 := Tryz.isAgg137
 z25 := Tryz.sizeOf137
 v25 := Tryz.zeroValue137
 t39 := Tryz.underlying65
 a39 := Tryz.isAgg65
 z39 := Tryz.sizeOf65
 v39 := Tryz.zeroValue65
 t45 := Tryz.underlying262
 a45 := Tryz.isAgg262
 z45 := Tryz.sizeOf262
 v45 := Tryz.zeroValue262
 t46 := Tryz.underlying263
 a46 := Tryz.isAgg263
 z46 := Tryz.sizeOf263
 v46 := Tryz.zeroValue263
 t50 := Tryz.underlying257
 a50 := Tryz.isAgg257
 z50 := Tryz.sizeOf257
 v50 := Tryz.zeroValue257
 t53 := Tryz.underlying268
 a53 := Tryz.isAgg268
 z53 := Tryz.sizeOf268
 v53 := Tryz.zeroValue268
 t55 := Tryz.underlying165
 a55 := Tryz.isAgg165
 z55 := Tryz.sizeOf165
 v55 := Tryz.zeroValue165
 t66 := Tryz.underlying297
 a66 := Tryz.isAgg297
 z66 := Tryz.sizeOf297
 v66 := Tryz.zeroValue297
 t70 := Tryz.underlying301
 a70 := Tryz.isAgg301
 z70 := Tryz.sizeOf301
 v70 := Tryz.zeroValue301
 t76 := Tryz.underlying323
 a76 := Tryz.isAgg323
 z76 := Tryz.sizeOf323
 v76 := Tryz.zeroValue323
 t77 := Tryz.underlying324
 a77 := Tryz.isAgg324
 z77 := Tryz.sizeOf324
 v77 := Tryz.zeroValue324 }
def Tryz.laysSortS_ren : Go.Shelf.Ren := ⟨fun | 190 => 113 | 125 => 143 | 258 => 142 | 128 => 184 | 129 => 185 | 302 => 175 | 303 => 176 | 304 => 177 | 305 => 178 | 306 => 179 | 307 => 180 | 308 => 181 | 309 => 182 | 310 => 183 | 333 => 212 | 329 => 213 | 330 => 214 | 334 => 215 | 335 => 216 | 336 => 217 | 344 => 240 | n => n, fun | 31 => 22 | 9 => 9 | 3 => 3 | 46 => 65 | 0 => 0 | 51 => 268 | 53 => 165 | 4 => 4 | 183 => 263 | 182 => 262 | 131 => 257 | 5 => 5 | 218 => 297 | 222 => 301 | 228 => 323 | 229 => 324 | n => n, fun | n => n⟩
theorem Tryz.laysSortS : Go.Proofs.Lays.n190 Tryz.prog Tryz.laysSortS_ren := {
 mixed := by kernel_rfl
 f125 := Tryz.func143.trans (congrArg some (by kernel_rfl))
 f128 := Tryz.func184.trans (congrArg some (by kernel_rfl))
 f129 := Tryz.func185.trans (congrArg some (by kernel_rfl))
 f190 := Tryz.func113.trans (congrArg some (by kernel_rfl))
 f258 := Tryz.func142.trans (congrArg some (by kernel_rfl))
 f302 := Tryz.func175.trans (congrArg some (by kernel_rfl))
 f303 := Tryz.func176.trans (congrArg some (by kernel_rfl))
 f304 := Tryz.func177.trans (congrArg some (by kernel_rfl))
 f305 := Tryz.func178.trans (congrArg some (by kernel_rfl))
 f306 := Tryz.func179.trans (congrArg some (by kernel_rfl))
 f307 := Tryz.func180.trans (congrArg some (by kernel_rfl))
 f308 := Tryz.func181.trans (congrArg some (by kernel_rfl))
 f309 := Tryz.func182.trans (congrArg some (by kernel_rfl))
 f310 := Tryz.func183.trans (congrArg some (by kernel_rfl))
 f329 := Tryz.func213.trans (congrArg some (by kernel_rfl))
 f330 := Tryz.func214.trans (congrArg some (by kernel_rfl))
 f333 := Tryz.func212.trans (congrArg some (by kernel_rfl))
 f334 := Tryz.func215.trans (congrArg some (by kernel_rfl))
 f335 := Tryz.func216.trans (congrArg some (by kernel_rfl))
 f336 := Tryz.func217.trans (congrArg some (by kernel_rfl))
 f344 := Tryz.func240.trans (congrArg some (by kernel_rfl))
 t0 := Tryz.underlying0
 a0 := Tryz.isAgg0
 z0 := Tryz.sizeOf0
 v0 := Tryz.zeroValue0
 t3 := Tryz.underlying3
 a3 := Tryz.isAgg3
 z3 := Tryz.sizeOf3
 v3 := Tryz.zeroValue3
 t4 := Tryz.underlying4
 a4 := Tryz.isAgg4
 z4 := Tryz.sizeOf4
 v4 := Tryz.zeroValue4
 t5 := Tryz.underlying5
 a5 := Tryz.isAgg5
 z5 := Tryz.sizeOf5
 v5 := Tryz.zeroValue5
 t9 := Tryz.underlying9
 a9 := Tryz.isAgg9
 z9 := Tryz.sizeOf9
 v9 := Tryz.zeroValue9
 t31 := Tryz.underlying22
 a31 := Tryz.isAgg22
 z31 := Tryz.sizeOf22
 v31 := Tryz.zeroValue22
 t46 := Tryz.underlying65
 a46 := Tryz.isAgg65
 z46 := Tryz.sizeOf65
 v46 := Tryz.zeroValue65
 t51 := Tryz.underlying268
 a51 := Tryz.isAgg268
 z51 := Tryz.sizeOf268
 v51 := Tryz.zeroValue268
 t53 := Tryz.underlying165
 a53 := Tryz.isAgg165
 z53 := Tryz.sizeOf165
 v53 := Tryz.zeroValue165
 t131 := Tryz.underlying257
 a131 := Tryz.isAgg257
 z131 := Tryz.sizeOf257
 v131 := Tryz.zeroValue257
 t182 := Tryz.underlying262
 a182 := Tryz.isAgg262
 z182 := Tryz.sizeOf262
 v182 := Tryz.zeroValue262
 t183 := Tryz.underlying263
 a183 := Tryz.isAgg263
 z183 := Tryz.sizeOf263
 v183 := Tryz.zeroValue263
 t218 := Tryz.underlying297
 a218 := Tryz.isAgg297
 z218 := Tryz.sizeOf297
 v218 := Tryz.zeroValue297
 t222 := Tryz.underlying301
 a222 := Tryz.isAgg301
 z222 := Tryz.sizeOf301
 v222 := Tryz.zeroValue301
 t228 := Tryz.underlying323
 a228 := Tryz.isAgg323
 z228 := Tryz.sizeOf323
 v228 := Tryz.zeroValue323
 t229 := Tryz.underlying324
 a229 := Tryz.isAgg324
 z229 := Tryz.sizeOf324
 v229 := Tryz.zeroValue324 }
end Go.Proofs
namespace Go.Proofs
open Go.Shelf
namespace YtflfhpokmidnmaaGreatDoor
open Go Go.Sl Go.Gv
def Tabs (h0 : Hp) : Prop := ∀ w, Hp.le h0 w → Lib.Utf8Tabs (Tryz.laysValid_ren.g 3) (Tryz.laysValid_ren.g 4) w
def validS (s : ByteArray) : Bool := Lib.validD s.data.toList
theorem valid_spec {h0 : Hp} (T : Tabs h0) (s : ByteArray) (hs : s.size ≤ 9223372036854775807) : Ct Tryz.prog 66 [.string s] [ro h0] (fun v hs => v = .bool (validS s) ∧ hs = [ro h0]) :=
 Ct.ofBelow Tryz.func66 rfl (by kernel_rfl) (V := fun _ => .bool (validS s)) (fun w0 w R st => Any.utf8_ValidString Tryz.laysValid s w hs (T w (Sat.ro st))) (fun _ => ⟨rfl, rfl⟩)
end YtflfhpokmidnmaaGreatDoor
end Go.Proofs
namespace Go.Proofs.YtflfhpokmidnmaaGreatDoor
open Go Go.Sl Go.Gv
set_option maxRecDepth 100000
def inB (i m : Int) : Bool := decide (0 ≤ i) && decide (i ≤ m)
def stampB (w c : Int) : Bool := inB w 1099511627776 && inB c 65535
def textB (s : ByteArray) : Bool := decide ((s.size : Int) ≤ 120) && validS s
def keyB (k : Key) : Bool := decide (0 ≤ k.o) && decide (k.o < 8) && decide (1 ≤ k.q) && decide (k.q ≤ 1023)
def recB (r : Rec) : Bool := keyB r.key && stampB r.w r.c && textB r.t
theorem wall_spec (i : Int) : Ct Tryz.prog 67 [int i] [] (fun v hs => v = .bool (inB i 1099511627776) ∧ hs = []) := by
 refine Cti Tryz.func67 (by kernel_rfl) 9 Tryz.ntmps67 rfl rfl fun w0 R => ?_
 refine Gsr (Las rfl rfl (Lnt (Gsr (Lmv rfl rfl (Lq rfl (pu_ge rfl rfl) (LpuB rfl rfl trivial (pu_move rfl) (fun hg2 => ?_) (fun hg2 => ?_)))))))
 ·
  have hg2' := of_decide_eq_true hg2
  refine Lpu rfl rfl ⟨_, rfl, rfl⟩ (pu_move rfl) (Lpu rfl rfl ⟨_, rfl, rfl⟩ (pu_le rfl rfl) (Lpk rfl rfl rfl (Las rfl rfl (Lnt (Gs.ret ?_)))))
  exact Gs.fin1 Tryz.results67 rfl _ (⟨by simp [inB, hg2'], rfl⟩) (by repeat constructor)
 have hg2' := of_decide_eq_false hg2
 refine Lof rfl (Lof rfl (Lpk rfl rfl rfl (Las rfl rfl (Lnt (Gs.ret ?_)))))
 exact Gs.fin1 Tryz.results67 rfl _ (⟨by simp [inB, hg2'], rfl⟩) (by repeat constructor)
theorem in_spec (i m : Int) : Ct Tryz.prog 78 [int i, int m] [] (fun v hs => v = .bool (inB i m) ∧ hs = []) := by
 refine Cti Tryz.func78 (by kernel_rfl) 12 Tryz.ntmps78 rfl rfl fun w0 R => ?_
 refine Gsr (Las rfl rfl (Lnt (Gsr (Lmv rfl rfl (Lq rfl (pu_ge rfl rfl) (LpuB rfl rfl trivial (pu_move rfl) (fun hg2 => ?_) (fun hg2 => ?_)))))))
 ·
  have hg2' := of_decide_eq_true hg2
  refine Lpu rfl rfl ⟨_, rfl, rfl⟩ (pu_move rfl) (Lpu rfl rfl ⟨_, rfl, rfl⟩ (pu_move rfl) (Lpu rfl rfl ⟨_, rfl, rfl⟩ (pu_le rfl rfl) (Lpk rfl rfl rfl (Las rfl rfl (Lnt (Gs.ret ?_))))))
  exact Gs.fin1 Tryz.results78 rfl _ (⟨by simp [inB, hg2'], rfl⟩) (by repeat constructor)
 have hg2' := of_decide_eq_false hg2
 refine Lof rfl (Lof rfl (Lof rfl (Lpk rfl rfl rfl (Las rfl rfl (Lnt (Gs.ret ?_))))))
 exact Gs.fin1 Tryz.results78 rfl _ (⟨by simp [inB, hg2'], rfl⟩) (by repeat constructor)
theorem stampMay_spec (w c : Int) : Ct Tryz.prog 71 [.agg #[int w, int c]] [] (fun v hs => v = .bool (stampB w c) ∧ hs = []) := by
 refine Cti Tryz.func71 (by kernel_rfl) 16 Tryz.ntmps71 rfl rfl fun w0 R => ?_
 refine Gsr (La rfl (ac_box rfl rfl) ?_)
 rintro _ _ ⟨b1, rfl, rfl⟩
 refine Las rfl rfl (Lnt (Gsr (Lq rfl (pu_fa fa_48_0 rfl) (Lr rfl (rd_ld na_3 rfl (Rdc.cl1 (by repeat constructor) rfl)) ?_))))
 refine La rfl (asC (wall_spec _)) ?_
 rintro _ _ ⟨_, ⟨rfl, rfl⟩, rfl⟩
 refine LpuB rfl rfl trivial (pu_move rfl) (fun hg3 => ?_) (fun hg3 => ?_)
 ·
  refine Lpu rfl rfl ⟨_, rfl, rfl⟩ (pu_fa fa_48_1 rfl) (Lrd rfl rfl ⟨_, rfl, rfl⟩ (rd_ld na_3 rfl (Rdc.cl1 (by repeat constructor) rfl)) ?_)
  refine Lpu rfl rfl ⟨_, rfl, rfl⟩ (pu_ge rfl rfl) (Lpk rfl rfl rfl (LpuB rfl rfl trivial (pu_move rfl) (fun hg8 => ?_) (fun hg8 => ?_)))
  ·
   refine Lpu rfl rfl ⟨_, rfl, rfl⟩ (pu_fa fa_48_1 rfl) (Lrd rfl rfl ⟨_, rfl, rfl⟩ (rd_ld na_3 rfl (Rdc.cl1 (by repeat constructor) rfl)) ?_)
   refine Lpu rfl rfl ⟨_, rfl, rfl⟩ (pu_le rfl rfl) (Lpk rfl rfl rfl (Las rfl rfl (Lnt (Gs.ret ?_))))
   exact Gs.fin1 Tryz.results71 rfl _ (⟨by grind [stampB, inB], rfl⟩) (by repeat constructor)
  refine Lof rfl (Lof rfl (Lof rfl (Lpk rfl rfl rfl (Las rfl rfl (Lnt (Gs.ret ?_))))))
  exact Gs.fin1 Tryz.results71 rfl _ (⟨by grind [stampB, inB], rfl⟩) (by repeat constructor)
 refine Lof rfl (Lof rfl (Lof rfl (Lpk rfl rfl rfl (Lmv rfl rfl (Lof rfl (Lof rfl (Lof rfl (Lpk rfl rfl rfl (Las rfl rfl (Lnt (Gs.ret ?_)))))))))))
 exact Gs.fin1 Tryz.results71 rfl _ (⟨by grind [stampB, inB], rfl⟩) (by repeat constructor)
theorem stampMay2_spec (w c : Int) : Ct Tryz.prog 45 [.agg #[int w, int c]] [] (fun v hs => v = .bool (stampB w c) ∧ hs = []) := by
 refine Cti Tryz.func45 (by kernel_rfl) 11 Tryz.ntmps45 rfl rfl fun w0 R => ?_
 refine Gsr (La rfl (ac_box rfl rfl) ?_)
 rintro _ _ ⟨b1, rfl, rfl⟩
 refine Las rfl rfl (Lnt (Gsr (Lq rfl (pu_fa fa_48_0 rfl) (Lr rfl (rd_ld na_3 rfl (Rdc.cl1 (by repeat constructor) rfl)) ?_))))
 refine La rfl (asC (in_spec _ _)) ?_
 rintro _ _ ⟨_, ⟨rfl, rfl⟩, rfl⟩
 refine LpuB rfl rfl trivial (pu_move rfl) (fun hg3 => ?_) (fun hg3 => ?_)
 ·
  refine Lpu rfl rfl ⟨_, rfl, rfl⟩ (pu_fa fa_48_1 rfl) (Lrd rfl rfl ⟨_, rfl, rfl⟩ (rd_ld na_3 rfl (Rdc.cl1 (by repeat constructor) rfl)) ?_)
  refine Lac rfl rfl ⟨_, rfl, rfl⟩ (asC (in_spec _ _)) ?_
  rintro _ _ ⟨_, ⟨rfl, rfl⟩, rfl⟩
  refine Lpk rfl rfl rfl (Las rfl rfl (Lnt (Gs.ret ?_)))
  exact Gs.fin1 Tryz.results45 rfl _ (⟨by grind [stampB], rfl⟩) (by repeat constructor)
 refine Lof rfl (Lof rfl (Lof rfl (Lpk rfl rfl rfl (Las rfl rfl (Lnt (Gs.ret ?_))))))
 exact Gs.fin1 Tryz.results45 rfl _ (⟨by grind [stampB], rfl⟩) (by repeat constructor)
theorem textMay_spec {h0 : Hp} (T : Tabs h0) (s : ByteArray) : Ct Tryz.prog 35 [.string s] [ro h0] (fun v hs => v = .bool (textB s) ∧ hs = [ro h0]) := by
 refine Cti Tryz.func35 (by kernel_rfl) 10 Tryz.ntmps35 rfl rfl fun w0 R => ?_
 refine Gsr (Las rfl rfl (Lnt (Gsr (Lmv rfl rfl (Lq rfl (pu_lenS Tryz.underlying9 rfl) (Lq rfl (pu_le rfl rfl) (LpuB rfl rfl trivial (pu_move rfl) (fun hg3 => ?_) (fun hg3 => ?_))))))))
 ·
  have hg := of_decide_eq_true hg3
  refine Lpu rfl rfl ⟨_, rfl, rfl⟩ (pu_move rfl) (Lac rfl rfl ⟨_, rfl, rfl⟩ (asC (valid_spec T s (by omega))) ?_)
  rintro _ _ ⟨_, ⟨rfl, rfl⟩, rfl⟩
  refine Lpk rfl rfl rfl (Las rfl rfl (Lnt (Gs.ret ?_)))
  exact Gs.fin1 Tryz.results35 rfl _ (⟨by simp [textB, hg], rfl⟩) (by repeat constructor)
 have hg := of_decide_eq_false hg3
 refine Lof rfl (Lof rfl (Lpk rfl rfl rfl (Las rfl rfl (Lnt (Gs.ret ?_)))))
 exact Gs.fin1 Tryz.results35 rfl _ (⟨by simp [textB, hg], rfl⟩) (by repeat constructor)
theorem textMay1_spec {h0 : Hp} (T : Tabs h0) (s : ByteArray) : Ct Tryz.prog 46 [.string s] [ro h0] (fun v hs => v = .bool (textB s) ∧ hs = [ro h0]) := by
 refine Cti Tryz.func46 (by kernel_rfl) 10 Tryz.ntmps46 rfl rfl fun w0 R => ?_
 refine Gsr (Las rfl rfl (Lnt (Gsr (Lmv rfl rfl (Lq rfl (pu_lenS Tryz.underlying9 rfl) (Lq rfl (pu_le rfl rfl) (LpuB rfl rfl trivial (pu_move rfl) (fun hg3 => ?_) (fun hg3 => ?_))))))))
 ·
  have hg := of_decide_eq_true hg3
  refine Lpu rfl rfl ⟨_, rfl, rfl⟩ (pu_move rfl) (Lac rfl rfl ⟨_, rfl, rfl⟩ (asC (valid_spec T s (by omega))) ?_)
  rintro _ _ ⟨_, ⟨rfl, rfl⟩, rfl⟩
  refine Lpk rfl rfl rfl (Las rfl rfl (Lnt (Gs.ret ?_)))
  exact Gs.fin1 Tryz.results46 rfl _ (⟨by simp [textB, hg], rfl⟩) (by repeat constructor)
 have hg := of_decide_eq_false hg3
 refine Lof rfl (Lof rfl (Lpk rfl rfl rfl (Las rfl rfl (Lnt (Gs.ret ?_)))))
 exact Gs.fin1 Tryz.results46 rfl _ (⟨by simp [textB, hg], rfl⟩) (by repeat constructor)
theorem keyMay_spec (k : Key) : Ct Tryz.prog 44 [keyV k] [] (fun v hs => v = .bool (keyB k) ∧ hs = []) := by
 refine Cti Tryz.func44 (by kernel_rfl) 21 Tryz.ntmps44 rfl rfl fun w0 R => ?_
 refine Gsr (La rfl (ac_box rfl rfl) ?_)
 rintro _ _ ⟨b1, rfl, rfl⟩
 refine Las rfl rfl (Lnt (Gsr (Lq rfl (pu_fa fa_35_0 rfl) (Lr rfl (rd_ld na_3 rfl (Rdc.cl1 (by repeat constructor) rfl)) ?_))))
 refine Lq rfl (pu_ge rfl rfl) (LpuB rfl rfl trivial (pu_move rfl) (fun hg3 => ?_) (fun hg3 => ?_))
 ·
  refine Lpu rfl rfl ⟨_, rfl, rfl⟩ (pu_fa fa_35_0 rfl) (Lrd rfl rfl ⟨_, rfl, rfl⟩ (rd_ld na_3 rfl (Rdc.cl1 (by repeat constructor) rfl)) ?_)
  refine Lpu rfl rfl ⟨_, rfl, rfl⟩ (pu_lt rfl rfl) (Lpk rfl rfl rfl (LpuB rfl rfl trivial (pu_move rfl) (fun hg8 => ?_) (fun hg8 => ?_)))
  ·
   refine Lpu rfl rfl ⟨_, rfl, rfl⟩ (pu_fa fa_35_1 rfl) (Lrd rfl rfl ⟨_, rfl, rfl⟩ (rd_ld na_3 rfl (Rdc.cl1 (by repeat constructor) rfl)) ?_)
   refine Lpu rfl rfl ⟨_, rfl, rfl⟩ (pu_ge rfl rfl) (Lpk rfl rfl rfl (LpuB rfl rfl trivial (pu_move rfl) (fun hg13 => ?_) (fun hg13 => ?_)))
   ·
    refine Lpu rfl rfl ⟨_, rfl, rfl⟩ (pu_fa fa_35_1 rfl) (Lrd rfl rfl ⟨_, rfl, rfl⟩ (rd_ld na_3 rfl (Rdc.cl1 (by repeat constructor) rfl)) ?_)
    refine Lpu rfl rfl ⟨_, rfl, rfl⟩ (pu_le rfl rfl) (Lpk rfl rfl rfl (Las rfl rfl (Lnt (Gs.ret ?_))))
    exact Gs.fin1 Tryz.results44 rfl _ (⟨by grind [keyB], rfl⟩) (by repeat constructor)
   refine Lof rfl (Lof rfl (Lof rfl (Lpk rfl rfl rfl (Las rfl rfl (Lnt (Gs.ret ?_))))))
   exact Gs.fin1 Tryz.results44 rfl _ (⟨by grind [keyB], rfl⟩) (by repeat constructor)
  refine Lof rfl (Lof rfl (Lof rfl (Lpk rfl rfl rfl (Lmv rfl rfl (Lof rfl (Lof rfl (Lof rfl (Lpk rfl rfl rfl (Las rfl rfl (Lnt (Gs.ret ?_)))))))))))
  exact Gs.fin1 Tryz.results44 rfl _ (⟨by grind [keyB], rfl⟩) (by repeat constructor)
 refine Lof rfl (Lof rfl (Lof rfl (Lpk rfl rfl rfl (Lmv rfl rfl (Lof rfl (Lof rfl (Lof rfl (Lpk rfl rfl rfl (Lmv rfl rfl (Lof rfl (Lof rfl ?_)))))))))))
 refine Lof rfl (Lpk rfl rfl rfl (Las rfl rfl (Lnt (Gs.ret ?_))))
 exact Gs.fin1 Tryz.results44 rfl _ (⟨by grind [keyB], rfl⟩) (by repeat constructor)
theorem recMay_spec {h0 : Hp} (T : Tabs h0) (r : Rec) : Ct Tryz.prog 79 [recV r] [ro h0] (fun v hs => v = .bool (recB r) ∧ hs = [ro h0]) := by
 refine Cti Tryz.func79 (by kernel_rfl) 35 Tryz.ntmps79 rfl rfl fun w0 R => ?_
 refine Gsr (La rfl (ac_box rfl rfl) ?_)
 rintro _ _ ⟨b1, rfl, rfl⟩
 refine Las rfl rfl (Lnt (Gsr (Lq rfl (pu_fa fa_50_0 rfl) (Lq rfl (pu_fa fa_35_0 rfl) (Lr rfl (rd_ld na_3 rfl (Rdc.cl1 (by repeat constructor) rfl)) ?_)))))
 refine Lq rfl (pu_ge rfl rfl) (LpuB rfl rfl trivial (pu_move rfl) (fun hg4 => ?_) (fun hg4 => ?_))
 ·
  refine Lpu rfl rfl ⟨_, rfl, rfl⟩ (pu_fa fa_50_0 rfl) (Lpu rfl rfl ⟨_, rfl, rfl⟩ (pu_fa fa_35_0 rfl) (Lrd rfl rfl ⟨_, rfl, rfl⟩ (rd_ld na_3 rfl (Rdc.cl1 (by repeat constructor) rfl)) ?_))
  refine Lpu rfl rfl ⟨_, rfl, rfl⟩ (pu_lt rfl rfl) (Lpk rfl rfl rfl (LpuB rfl rfl trivial (pu_move rfl) (fun hg10 => ?_) (fun hg10 => ?_)))
  ·
   refine Lpu rfl rfl ⟨_, rfl, rfl⟩ (pu_fa fa_50_0 rfl) (Lpu rfl rfl ⟨_, rfl, rfl⟩ (pu_fa fa_35_1 rfl) (Lrd rfl rfl ⟨_, rfl, rfl⟩ (rd_ld na_3 rfl (Rdc.cl1 (by repeat constructor) rfl)) ?_))
   refine Lpu rfl rfl ⟨_, rfl, rfl⟩ (pu_ge rfl rfl) (Lpk rfl rfl rfl (LpuB rfl rfl trivial (pu_move rfl) (fun hg16 => ?_) (fun hg16 => ?_)))
   ·
    refine Lpu rfl rfl ⟨_, rfl, rfl⟩ (pu_fa fa_50_0 rfl) (Lpu rfl rfl ⟨_, rfl, rfl⟩ (pu_fa fa_35_1 rfl) (Lrd rfl rfl ⟨_, rfl, rfl⟩ (rd_ld na_3 rfl (Rdc.cl1 (by repeat constructor) rfl)) ?_))
    refine Lpu rfl rfl ⟨_, rfl, rfl⟩ (pu_le rfl rfl) (Lpk rfl rfl rfl (LpuB rfl rfl trivial (pu_move rfl) (fun hg22 => ?_) (fun hg22 => ?_)))
    ·
     refine Lpu rfl rfl ⟨_, rfl, rfl⟩ (pu_fa fa_50_1 rfl) (Lrd rfl rfl ⟨_, rfl, rfl⟩ (rd_lda ag_48 rfl (Rdc.cl 2 (by repeat constructor) rfl) rfl) ?_)
     refine Lac rfl rfl ⟨_, rfl, rfl⟩ (asC (stampMay_spec _ _)) ?_
     rintro _ _ ⟨_, ⟨rfl, rfl⟩, rfl⟩
     refine Lpk rfl rfl rfl (LpuB rfl rfl trivial (pu_move rfl) (fun hg27 => ?_) (fun hg27 => ?_))
     ·
      refine Lpu rfl rfl ⟨_, rfl, rfl⟩ (pu_fa fa_50_2 rfl) (Lrd rfl rfl ⟨_, rfl, rfl⟩ (rd_ld na_9 rfl (Rdc.cl1 (by repeat constructor) rfl)) ?_)
      refine Lac rfl rfl ⟨_, rfl, rfl⟩ (asC (textMay_spec T _)) ?_
      rintro _ _ ⟨_, ⟨rfl, rfl⟩, rfl⟩
      refine Lpk rfl rfl rfl (Las rfl rfl (Lnt (Gs.ret ?_)))
      exact Gs.fin1 Tryz.results79 rfl _ (⟨by grind [recB, keyB, Rec.key], rfl⟩) (by repeat constructor)
     refine Lof rfl (Lof rfl (Lof rfl (Lpk rfl rfl rfl (Las rfl rfl (Lnt (Gs.ret ?_))))))
     exact Gs.fin1 Tryz.results79 rfl _ (⟨by grind [recB, keyB, Rec.key], rfl⟩) (by repeat constructor)
    refine Lof rfl (Lof rfl (Lof rfl (Lpk rfl rfl rfl (Lmv rfl rfl (Lof rfl (Lof rfl (Lof rfl (Lpk rfl rfl rfl (Las rfl rfl (Lnt (Gs.ret ?_)))))))))))
    exact Gs.fin1 Tryz.results79 rfl _ (⟨by grind [recB, keyB, Rec.key], rfl⟩) (by repeat constructor)
   refine Lof rfl (Lof rfl (Lof rfl (Lof rfl (Lpk rfl rfl rfl (Lmv rfl rfl (Lof rfl (Lof rfl (Lof rfl (Lpk rfl rfl rfl (Lmv rfl rfl (Lof rfl ?_)))))))))))
   refine Lof rfl (Lof rfl (Lpk rfl rfl rfl (Las rfl rfl (Lnt (Gs.ret ?_)))))
   exact Gs.fin1 Tryz.results79 rfl _ (⟨by grind [recB, keyB, Rec.key], rfl⟩) (by repeat constructor)
  refine Lof rfl (Lof rfl (Lof rfl (Lof rfl (Lpk rfl rfl rfl (Lmv rfl rfl (Lof rfl (Lof rfl (Lof rfl (Lof rfl (Lpk rfl rfl rfl (Lmv rfl rfl ?_)))))))))))
  refine Lof rfl (Lof rfl (Lof rfl (Lpk rfl rfl rfl (Lmv rfl rfl (Lof rfl (Lof rfl (Lof rfl (Lpk rfl rfl rfl (Las rfl rfl (Lnt (Gs.ret ?_)))))))))))
  exact Gs.fin1 Tryz.results79 rfl _ (⟨by grind [recB, keyB, Rec.key], rfl⟩) (by repeat constructor)
 refine Lof rfl (Lof rfl (Lof rfl (Lof rfl (Lpk rfl rfl rfl (Lmv rfl rfl (Lof rfl (Lof rfl (Lof rfl (Lof rfl (Lpk rfl rfl rfl (Lmv rfl rfl ?_)))))))))))
 refine Lof rfl (Lof rfl (Lof rfl (Lof rfl (Lpk rfl rfl rfl (Lmv rfl rfl (Lof rfl (Lof rfl (Lof rfl (Lpk rfl rfl rfl (Lmv rfl rfl (Lof rfl ?_)))))))))))
 refine Lof rfl (Lof rfl (Lpk rfl rfl rfl (Las rfl rfl (Lnt (Gs.ret ?_)))))
 exact Gs.fin1 Tryz.results79 rfl _ (⟨by grind [recB, keyB, Rec.key], rfl⟩) (by repeat constructor)
theorem recMay4_spec {h0 : Hp} (T : Tabs h0) (r : Rec) : Ct Tryz.prog 21 [recV r] [ro h0] (fun v hs => v = .bool (recB r) ∧ hs = [ro h0]) := by
 refine Cti Tryz.func21 (by kernel_rfl) 16 Tryz.ntmps21 rfl rfl fun w0 R => ?_
 refine Gsr (La rfl (ac_box rfl rfl) ?_)
 rintro _ _ ⟨b1, rfl, rfl⟩
 refine Las rfl rfl (Lnt (Gsr (Lq rfl (pu_fa fa_50_0 rfl) (Lr rfl (rd_lda ag_35 rfl (Rdc.cl 2 (by repeat constructor) rfl) rfl) ?_))))
 refine La rfl (asC (keyMay_spec ⟨_, _⟩)) ?_
 rintro _ _ ⟨_, ⟨rfl, rfl⟩, rfl⟩
 refine LpuB rfl rfl trivial (pu_move rfl) (fun hg3 => ?_) (fun hg3 => ?_)
 ·
  refine Lpu rfl rfl ⟨_, rfl, rfl⟩ (pu_fa fa_50_1 rfl) (Lrd rfl rfl ⟨_, rfl, rfl⟩ (rd_lda ag_48 rfl (Rdc.cl 2 (by repeat constructor) rfl) rfl) ?_)
  refine Lac rfl rfl ⟨_, rfl, rfl⟩ (asC (stampMay2_spec _ _)) ?_
  rintro _ _ ⟨_, ⟨rfl, rfl⟩, rfl⟩
  refine Lpk rfl rfl rfl (LpuB rfl rfl trivial (pu_move rfl) (fun hg8 => ?_) (fun hg8 => ?_))
  ·
   refine Lpu rfl rfl ⟨_, rfl, rfl⟩ (pu_fa fa_50_2 rfl) (Lrd rfl rfl ⟨_, rfl, rfl⟩ (rd_ld na_9 rfl (Rdc.cl1 (by repeat constructor) rfl)) ?_)
   refine Lac rfl rfl ⟨_, rfl, rfl⟩ (asC (textMay1_spec T _)) ?_
   rintro _ _ ⟨_, ⟨rfl, rfl⟩, rfl⟩
   refine Lpk rfl rfl rfl (Las rfl rfl (Lnt (Gs.ret ?_)))
   exact Gs.fin1 Tryz.results21 rfl _ (⟨by grind [recB, Rec.key], rfl⟩) (by repeat constructor)
  refine Lof rfl (Lof rfl (Lof rfl (Lpk rfl rfl rfl (Las rfl rfl (Lnt (Gs.ret ?_))))))
  exact Gs.fin1 Tryz.results21 rfl _ (⟨by grind [recB, Rec.key], rfl⟩) (by repeat constructor)
 refine Lof rfl (Lof rfl (Lof rfl (Lpk rfl rfl rfl (Lmv rfl rfl (Lof rfl (Lof rfl (Lof rfl (Lpk rfl rfl rfl (Las rfl rfl (Lnt (Gs.ret ?_)))))))))))
 exact Gs.fin1 Tryz.results21 rfl _ (⟨by grind [recB, Rec.key], rfl⟩) (by repeat constructor)
end Go.Proofs.YtflfhpokmidnmaaGreatDoor
namespace Go.Proofs.YtflfhpokmidnmaaGreatDoor
open Go Go.Sl Go.Gv
set_option maxRecDepth 100000
def clkW (i : Int) : Bool := inB i 1099511627776
def setC (l s : Int × Int) : (Int × Int) × Int := if 65535 < s.2 then (l, 4) else (s, 0)
def tickC (l : Int × Int) (now : Int) : (Int × Int) × Int := if clkW now then setC l (if l.1 < now then (now, 0) else (l.1, l.2 + 1)) else (l, 2)
def topC (l s : Int × Int) : Int × Int := if slB s l then l else s
def seeC (l s : Int × Int) (now : Int) : (Int × Int) × Int :=
 if stampB s.1 s.2 && clkW now then (if 1000 < s.1 - now then (l, 5) else if max s.1 l.1 < now then setC l (now, 0) else setC l ((topC l s).1, (topC l s).2 + 1)) else (l, 2)
def clkB (l : Int × Int) : Bool := stampB l.1 l.2
theorem clkB_iff {l : Int × Int} : clkB l = true ↔ (0 ≤ l.1 ∧ l.1 ≤ 1099511627776) ∧ 0 ≤ l.2 ∧ l.2 ≤ 65535 := by
 simp [clkB, stampB, inB]
theorem clkW_iff {i : Int} : clkW i = true ↔ 0 ≤ i ∧ i ≤ 1099511627776 := by simp [clkW, inB]
theorem setC_ok {l s : Int × Int} (h : clkB l = true) (h1 : 0 ≤ s.1 ∧ s.1 ≤ 1099511627776) (h2 : 0 ≤ s.2) : clkB (setC l s).1 = true := by
 unfold setC; split
 · exact h
 · rw [clkB_iff]; exact ⟨h1, h2, by show s.2 ≤ 65535; omega⟩
theorem setC_yes {l s : Int × Int} (h : (setC l s).2 = 0) : (setC l s).1 = s := by
 unfold setC at h ⊢; split at h
 · cases h
 · rename_i hc; rw [if_neg hc]
theorem topC_ok {l s : Int × Int} (h : clkB l = true) (h' : clkB s = true) : clkB (topC l s) = true := by unfold topC; split <;> assumption
theorem tickC_ok {l : Int × Int} (h : clkB l = true) (now : Int) : clkB (tickC l now).1 = true := by
 have h1 := clkB_iff.1 h
 unfold tickC
 split
 · rename_i hw
   have := clkW_iff.1 hw
   refine setC_ok h ?_ ?_ <;> split <;> (first | (show 0 ≤ _ ∧ _; omega) | (show (0 : Int) ≤ _; omega))
 · exact h
theorem seeC_ok {l s : Int × Int} (h : clkB l = true) (now : Int) : clkB (seeC l s now).1 = true := by
 have h1 := clkB_iff.1 h
 unfold seeC
 split
 · rename_i hc
   rw [Bool.and_eq_true] at hc
   have hw := clkW_iff.1 hc.2
   have ht := clkB_iff.1 (topC_ok h hc.1)
   split
   · exact h
   · split
     · exact setC_ok h (by show 0 ≤ now ∧ _; omega) (by show (0 : Int) ≤ 0; omega)
     · exact setC_ok h ht.1 (by show 0 ≤ (topC l s).2 + 1; omega)
 · exact h
end Go.Proofs.YtflfhpokmidnmaaGreatDoor
namespace Go.Proofs.YtflfhpokmidnmaaGreatDoor
open Go Go.Sl Go.Gv Go.Po
set_option maxRecDepth 100000
abbrev clC (l : Int × Int) : List Value := [int l.1, int l.2]
theorem cset_spec (b : Nat) (l : Int × Int) (x y : Int) :
   Ct Tryz.prog 68 [ptr b, .agg #[int x, int y]] [cl b 116 (clC l)] (fun v hs => v = int (setC l (x, y)).2 ∧ hs = [cl b 116 (clC (setC l (x, y)).1)]) := by
 refine Cti Tryz.func68 (by kernel_rfl) 12 Tryz.ntmps68 rfl rfl fun w0 R => ?_
 refine Gsr (La rfl (ac_box rfl rfl) ?_)
 rintro _ _ ⟨sb, rfl, rfl⟩
 refine Las rfl rfl (Lnt (Gs.seq (Gsr (Lq rfl (pu_fa fa_48_1 rfl) (Lr rfl (rd_ld na_3 rfl (Rdc.cl1 (by repeat constructor) rfl)) ?_)))))
 refine Lq rfl (pu_gt rfl rfl) (Lnt (Gs.cond rfl (fun hc0 => ?_) (fun hc0 => ?_)))
 ·
  have hs : setC l (x, y) = (l, 4) := by unfold setC; rw [if_pos (of_decide_eq_true hc0)]
  refine Gsr (Las rfl rfl (Lnt (Gs.ret (Gr ?_))))
  exact Gs.fin1 Tryz.results68 rfl _ (⟨by rw [hs], by rw [hs]⟩) (by repeat constructor)
 have hs : setC l (x, y) = ((x, y), 0) := by unfold setC; rw [if_neg (of_decide_eq_false hc0)]
 refine Gs.skip (Gn (Gsr (Lmv rfl rfl (Lr rfl (rd_lda ag_48 rfl (Rdc.cl 2 (by repeat constructor) rfl) rfl) ?_))))
 refine Lq rfl (by first | exact pu_nil rfl | exact pu_nilF rfl) ?_
 refine Lq rfl (pu_fa fa_116_0 rfl) (Lac0 rfl trivial (ac_st sz_48 rfl rfl (by repeat constructor) rfl rfl rfl rfl) ?_)
 rintro _ _ rfl
 refine Lnt (Gsr (Las rfl rfl (Lnt (Gs.ret ?_))))
 exact Gs.fin1 Tryz.results68 rfl _ (⟨by rw [hs], by rw [hs]⟩) (by repeat constructor)
theorem clast_spec (b : Nat) (l : Int × Int) :
   Ct Tryz.prog 49 [ptr b] [cl b 116 (clC l)] (fun v hs => v = stV l ∧ hs = [cl b 116 (clC l)]) := by
 refine Cti Tryz.func49 (by kernel_rfl) 10 Tryz.ntmps49 rfl rfl fun w0 R => ?_
 refine Gsr (La rfl (ac_alloc zv_48 rfl) ?_)
 rintro _ _ ⟨ob, rfl, rfl⟩
 refine Lnt (Gs.seq (Gsr (Lmv rfl rfl (Lq rfl (pu_eqN Tryz.underlying68 rfl rfl) (Lnt (Gs.cond_ff rfl rfl (Gs.skip (Gn (Gsr (Lmv rfl rfl (Lq rfl (by first | exact pu_nil rfl | exact pu_nilF rfl) ?_)))))))))))
 refine Lq rfl (pu_fa fa_116_0 rfl) (Lr rfl (rd_lda ag_48 rfl (Rdc.cl 2 (by repeat constructor) rfl) rfl) ?_)
 refine Lac0 rfl trivial (ac_st sz_48 rfl rfl (by repeat constructor) rfl rfl rfl rfl) ?_
 rintro _ _ rfl
 refine Lnt (Gs.ret ?_)
 exact Gs.finc1 Tryz.results49 ag_48 rfl (Rdc.cl 2 (by repeat constructor) rfl) rfl _ (⟨rfl, rfl⟩) (by repeat constructor)
theorem cnew_spec (x y : Int) (h : stampB x y = true) :
   Ct Tryz.prog 38 [.agg #[int x, int y]] [] (fun v hs => ∃ b, v = ptr b ∧ hs = [cl b 116 (clC (x, y))]) := by
 refine Cti Tryz.func38 (by kernel_rfl) 9 Tryz.ntmps38 rfl rfl fun w0 R => ?_
 refine Gsr (La rfl (ac_box rfl rfl) ?_)
 rintro _ _ ⟨sb, rfl, rfl⟩
 refine Las rfl rfl (Lnt (Gs.seq (Gsr (Lr rfl (rd_lda ag_48 rfl (Rdc.cl 2 (by repeat constructor) rfl) rfl) ?_))))
 refine La rfl (asC (stampMay_spec x y)) ?_
 rintro _ _ ⟨_, ⟨rfl, rfl⟩, rfl⟩
 refine Lq rfl (pu_not rfl) (Lnt (Gs.cond_ff rfl (by rw [h]; rfl) ?_))
 refine Gs.skip (Gn (Gsr (Lr rfl (rd_lda ag_48 rfl (Rdc.cl 2 (by repeat constructor) rfl) rfl) ?_)))
 refine Lq rfl (pu_build bd_116 (by repeat constructor) rfl) ?_
 refine La rfl (ac_box rfl rfl) ?_
 rintro _ _ ⟨cb, rfl, rfl⟩
 refine Las rfl rfl (Lnt (Gs.ret ?_))
 exact Gs.fin1 Tryz.results38 rfl _ (⟨cb, rfl, rfl⟩) (by repeat constructor)
theorem ctick_spec (b : Nat) (l : Int × Int) (now : Int) (hl : clkB l = true) :
   Ct Tryz.prog 36 [ptr b, int now] [cl b 116 (clC l)]
     (fun v hs => v = .tuple #[stV (if (tickC l now).2 = 0 then (tickC l now).1 else (0, 0)), int (tickC l now).2] ∧ hs = [cl b 116 (clC (tickC l now).1)]) := by
 have h1 := clkB_iff.1 hl
 refine Cti Tryz.func36 (by kernel_rfl) 46 Tryz.ntmps36 rfl rfl fun w0 R => ?_
 refine Gsr (La rfl (ac_alloc zv_48 rfl) ?_)
 rintro _ _ ⟨ob, rfl, rfl⟩
 refine Las rfl rfl (Lnt (Gs.seq (Gs.block (Gsr (Lmv rfl rfl (Lq rfl (pu_eqN Tryz.underlying68 rfl rfl) (Las rfl rfl (Lnt (Gs.cond_ff rfl rfl (Gsr (Lmv rfl rfl ?_)))))))))))
 refine La rfl (asC (wall_spec now)) ?_
 rintro _ _ ⟨_, ⟨rfl, rfl⟩, rfl⟩
 refine Lq rfl (pu_not rfl) (Las rfl rfl (Lnt (Gs.cond rfl (fun hc1 => ?_) (fun hc1 => ?_))))
 ·
  have hw : clkW now = false := not_t hc1
  have ht : tickC l now = (l, 2) := by unfold tickC; rw [hw]; rfl
  refine Gsr (Lq rfl (pu_build bd_48 (by repeat constructor) rfl) ?_)
  refine Lac0 rfl trivial (ac_st sz_48 rfl rfl (by repeat constructor) rfl rfl rfl rfl) ?_
  rintro _ _ rfl
  refine Las rfl rfl (Lnt (Gs.ret (Gs.blk_r (Gr ?_))))
  exact Gs.finc2 Tryz.results36 ag_48 rfl (Rdc.cl 2 (by repeat constructor) rfl) rfl rfl _ (⟨by rw [ht]; rfl, by rw [ht]⟩) (by repeat constructor)
 have hw : clkW now = true := not_f hc1
 refine Gs.skip (Gs.blk_n (Gn (Gs.seq (Gs.regD mixed (by kernel_rfl) (Rmv 0 rfl (by kernel_rfl) rfl (Rq 1 rfl (by kernel_rfl) (by first | exact pu_nil rfl | exact pu_nilF rfl) ?_))))))
 refine Rq 2 rfl (by kernel_rfl) (pu_fa fa_116_0 rfl) (Rq 3 rfl (by kernel_rfl) (pu_fa fa_48_0 rfl) (Rr 4 rfl (by kernel_rfl) (rd_ld na_3 rfl (Rdc.cl1 (by repeat constructor) rfl)) ?_))
 refine Rmv 5 rfl (by kernel_rfl) rfl (Rq 6 rfl (by kernel_rfl) (by first | exact pu_nil rfl | exact pu_nilF rfl) ?_)
 refine Rq 7 rfl (by kernel_rfl) (pu_fa fa_116_0 rfl) (Rq 8 rfl (by kernel_rfl) (pu_fa fa_48_1 rfl) (Rr 9 rfl (by kernel_rfl) (rd_ld na_3 rfl (Rdc.cl1 (by repeat constructor) rfl)) ?_))
 refine Rq 10 rfl (by kernel_rfl) (by first | exact pu_addI rfl rfl rfl (by omega) (by omega) | exact pu_add rfl rfl) ?_
 refine Rq 11 rfl (by kernel_rfl) (pu_build bd_48 (by repeat constructor) rfl) ?_
 refine Rg.one (by kernel_rfl) (Stp.acK 12 rfl rfl (by kernel_rfl) trivial (ac_alloc zv_48 rfl) (by rintro _ _ ⟨nb, rfl, rfl⟩ w s; first | exact s.drop | exact s | exact Ent.sat (by repeat constructor) s) ?_)
 rintro _ _ ⟨nb, rfl, rfl⟩
 refine Rg.one (by kernel_rfl) (Stp.ac0 13 rfl rfl (by kernel_rfl) trivial (ac_st sz_48 rfl rfl (by repeat constructor) rfl rfl rfl rfl)  ?_)
 rintro _ _ rfl
 refine Rg.end (by kernel_rfl) (Gn (Gs.seq (Gsr (Lmv rfl rfl (Lmv rfl rfl (Lq rfl (by first | exact pu_nil rfl | exact pu_nilF rfl) ?_))))))
 refine Lq rfl (pu_fa fa_116_0 rfl) (Lq rfl (pu_fa fa_48_0 rfl) (Lr rfl (rd_ld na_3 rfl (Rdc.cl1 (by repeat constructor) rfl)) ?_))
 refine Lq rfl (pu_gt rfl rfl) (Lnt (Gs.cond rfl (fun hc2 => ?_) (fun hc2 => ?_)))
 ·
  have hn : tickC l now = setC l (now, 0) := by unfold tickC; rw [if_pos hw, if_pos (of_decide_eq_true hc2)]
  refine Gs.reg (Lmv rfl rfl (Lq rfl (pu_build bd_48 (by repeat constructor) rfl) ?_))
  refine Lac0 rfl trivial (ac_st sz_48 rfl rfl (by repeat constructor) rfl rfl rfl rfl) ?_
  rintro _ _ rfl
  refine Lnt (Gs.seq (Gsr (Lmv rfl rfl (Lr rfl (rd_lda ag_48 rfl (Rdc.cl 2 (by repeat constructor) rfl) rfl) ?_))))
  refine La rfl (asC (cset_spec b l _ _)) ?_
  rintro _ _ ⟨_, ⟨rfl, rfl⟩, rfl⟩
  refine Las rfl rfl (Lnt (Gsr (Lmv rfl rfl (Lq rfl (pu_ne rfl rfl) (Lnt (Gs.cond rfl (fun hc3 => ?_) (fun hc3 => ?_)))))))
  ·
   have hz := of_decide_eq_true hc3
   refine Gsr (Lq rfl (pu_build bd_48 (by repeat constructor) rfl) ?_)
   refine Lmv rfl rfl (Lac0 rfl trivial (ac_st sz_48 rfl rfl (by repeat constructor) rfl rfl rfl rfl) ?_)
   rintro _ _ rfl
   refine Las rfl rfl (Lnt (Gs.ret (Gr ?_)))
   exact Gs.finc2 Tryz.results36 ag_48 rfl (Rdc.cl 2 (by repeat constructor) rfl) rfl rfl _ (⟨by rw [hn, if_neg hz], by rw [hn]⟩) (by repeat constructor)
  have hz := Decidable.not_not.1 (of_decide_eq_false hc3)
  refine Gs.skip (Gn (Gsr (Lr rfl (rd_lda ag_48 rfl (Rdc.cl 2 (by repeat constructor) rfl) rfl) ?_)))
  refine Lac0 rfl trivial (ac_st sz_48 rfl rfl (by repeat constructor) rfl rfl rfl rfl) ?_
  rintro _ _ rfl
  refine Las rfl rfl (Lnt (Gs.ret ?_))
  exact Gs.finc2 Tryz.results36 ag_48 rfl (Rdc.cl 2 (by repeat constructor) rfl) rfl rfl _ (⟨by rw [hn, if_pos hz, hz, setC_yes hz], by rw [hn]⟩) (by repeat constructor)
 have hn : tickC l now = setC l (l.1, l.2 + 1) := by unfold tickC; rw [if_pos hw, if_neg (of_decide_eq_false hc2)]
 refine Gs.skip (Gn (Gs.seq (Gsr (Lmv rfl rfl (Lr rfl (rd_lda ag_48 rfl (Rdc.cl 2 (by repeat constructor) rfl) rfl) ?_)))))
 refine La rfl (asC (cset_spec b l _ _)) ?_
 rintro _ _ ⟨_, ⟨rfl, rfl⟩, rfl⟩
 refine Las rfl rfl (Lnt (Gsr (Lmv rfl rfl (Lq rfl (pu_ne rfl rfl) (Lnt (Gs.cond rfl (fun hc3 => ?_) (fun hc3 => ?_)))))))
 ·
  have hz := of_decide_eq_true hc3
  refine Gsr (Lq rfl (pu_build bd_48 (by repeat constructor) rfl) ?_)
  refine Lmv rfl rfl (Lac0 rfl trivial (ac_st sz_48 rfl rfl (by repeat constructor) rfl rfl rfl rfl) ?_)
  rintro _ _ rfl
  refine Las rfl rfl (Lnt (Gs.ret (Gr ?_)))
  exact Gs.finc2 Tryz.results36 ag_48 rfl (Rdc.cl 2 (by repeat constructor) rfl) rfl rfl _ (⟨by rw [hn, if_neg hz], by rw [hn]⟩) (by repeat constructor)
 have hz := Decidable.not_not.1 (of_decide_eq_false hc3)
 refine Gs.skip (Gn (Gsr (Lr rfl (rd_lda ag_48 rfl (Rdc.cl 2 (by repeat constructor) rfl) rfl) ?_)))
 refine Lac0 rfl trivial (ac_st sz_48 rfl rfl (by repeat constructor) rfl rfl rfl rfl) ?_
 rintro _ _ rfl
 refine Las rfl rfl (Lnt (Gs.ret ?_))
 exact Gs.finc2 Tryz.results36 ag_48 rfl (Rdc.cl 2 (by repeat constructor) rfl) rfl rfl _ (⟨by rw [hn, if_pos hz, hz, setC_yes hz], by rw [hn]⟩) (by repeat constructor)
def maxS : List (Int × Int) → Int × Int
 | [] => (0, 0)
 | x :: xs => xs.foldl (fun t s => if slB t s then s else t) x
theorem maxS_snoc (xs : List (Int × Int)) (s : Int × Int) : maxS (xs ++ [s]) = if xs = [] then s else if slB (maxS xs) s then s else maxS xs := by
 cases xs with
 | nil => rfl
 | cons x xs =>
   rw [if_neg (by simp)]
   show (xs ++ [s]).foldl _ x = _
   rw [List.foldl_append]; rfl
abbrev encC_48 : Int × Int → List Value := clC
theorem ek_48 : EncOk 2 clC := ⟨fun _ => rfl, fun x v hv => by
 simp only [clC, List.mem_cons, List.not_mem_nil, or_false] at hv
 rcases hv with rfl | rfl <;> rfl⟩
theorem smax_spec {S : HProp} {a : Option Addr} {c : Nat} {xs : List (Int × Int)} (hS : Srd S 2 clC a xs) (hl : xs.length ≤ 1000000) :
   Ct Tryz.prog 60 [.slice a xs.length c] [S] (fun v hs => v = stV (maxS xs) ∧ hs = [S]) := by
 refine Cti Tryz.func60 (by kernel_rfl) 23 Tryz.ntmps60 rfl rfl fun w0 R => ?_
 refine Gs.slAddr (hS.h (by repeat constructor)) fun ab ao ha => ?_
 refine Gsr (La rfl (ac_alloc zv_48 rfl) ?_)
 rintro _ _ ⟨ob, rfl, rfl⟩
 refine Lnt (Gsr (La rfl (ac_alloc zv_48 rfl) ?_))
 rintro _ _ ⟨tb, rfl, rfl⟩
 refine Lnt (Gs.seq (Gsr (Lmv rfl rfl (Lq rfl (pu_len Tryz.underlying163 rfl) (Lmv rfl rfl (Lnt (Gs.block (Gs.loop1 (fun i : Nat => i ≤ xs.length) (fun i => [(2, ptr ob), (3, ptr tb), (6, .slice a xs.length c), (7, int xs.length), (8, int i)]) (fun i => [cl ob 48 (clC (0, 0)), cl tb 48 (clC (maxS (xs.take i))), S] ++ R) (fun i => xs.length - i) 0 (Nat.zero_le _) (by repeat constructor) (by repeat constructor) (fun i hi => ?_)))))))))
 refine Gsr (Lq rfl (pu_lt rfl rfl) (Lnt (Gs.seq (Gs.cond rfl (fun hc0 => ?_) (fun hc0 => ?_)))))
 ·
  have hlt : i < xs.length := by have := of_decide_eq_true hc0; omega
  obtain ⟨x, hx⟩ : ∃ x, xs[i]? = some x := ⟨xs[i], by simp [hlt]⟩
  obtain rfl := ha (by rintro rfl; simp at hlt)
  have hsn : maxS (xs.take (i + 1)) = if xs.take i = [] then x else if slB (maxS (xs.take i)) x then x else maxS (xs.take i) := by rw [List.take_add_one, hx]; exact maxS_snoc _ _
  refine Gs.skip (Gn (Gs.seq (Gs.block (Gsr (Lmv rfl rfl (Lq rfl (pu_ia se_163 rfl rfl (by omega) (by omega)) (Lr rfl (rd_lda ag_48 rfl (Rdc.el0 (hS.h (by repeat constructor)) hx rfl rfl) rfl) ?_)))))))
  refine La rfl (ac_alloc zv_48 rfl) ?_
  rintro _ _ ⟨xb, rfl, rfl⟩
  refine Las rfl rfl (Lac0 rfl trivial (ac_st sz_48 rfl rfl (by repeat constructor) rfl rfl rfl rfl) ?_)
  rintro _ _ rfl
  refine Lnt (Gsr (Lmv rfl rfl (Lq rfl (pu_eq rfl rfl) (LpuB rfl rfl trivial (pu_move rfl) (fun hg2 => ?_) (fun hg2 => ?_)))))
  ·
   have h0 : i = 0 := by have := of_decide_eq_true hg2; omega
   have hst : maxS (xs.take (i + 1)) = x := by rw [hsn, if_pos (by rw [h0]; rfl)]
   refine Lof rfl (Lof rfl (Lof rfl (Lpk rfl rfl rfl (Lnt (Gs.cond_t rfl (Gs.reg (Lr rfl (rd_lda ag_48 rfl (Rdc.cl 2 (by repeat constructor) rfl) rfl) ?_)))))))
   refine Lac0 rfl trivial (ac_st sz_48 rfl rfl (by repeat constructor) rfl rfl rfl rfl) ?_
   rintro _ _ rfl
   refine Lnil (Gs.blk_n (Gn (Gs.reg (Lq rfl (by first | exact pu_addI rfl rfl rfl (by omega) (by omega) | exact pu_add rfl rfl) ?_))))
   refine Lmv rfl rfl (Lnt ?_)
   exact Gs.again1 (i + 1) hlt (by show xs.length - (i + 1) < xs.length - i; omega) (by repeat constructor) (by simp only [hst]; repeat constructor)
  have h0 : ¬ xs.take i = [] := by have h8 := of_decide_eq_false hg2; intro e; have h9 := congrArg List.length e; rw [List.length_take, List.length_nil] at h9; omega
  refine Lrd rfl rfl ⟨_, rfl, rfl⟩ (rd_lda ag_48 rfl (Rdc.cl 2 (by repeat constructor) rfl) rfl) ?_
  refine Lrd rfl rfl ⟨_, rfl, rfl⟩ (rd_lda ag_48 rfl (Rdc.cl 2 (by repeat constructor) rfl) rfl) ?_
  refine Lac rfl rfl ⟨_, rfl, rfl⟩ (asC (stampLess_spec (maxS (xs.take i)) x)) ?_
  rintro _ _ ⟨_, ⟨rfl, rfl⟩, rfl⟩
  refine Lpk rfl rfl rfl (Lnt (Gs.cond rfl (fun hc1 => ?_) (fun hc1 => ?_)))
  ·
   have hst : maxS (xs.take (i + 1)) = x := by rw [hsn, if_neg h0, if_pos hc1]
   refine Gs.reg (Lr rfl (rd_lda ag_48 rfl (Rdc.cl 2 (by repeat constructor) rfl) rfl) ?_)
   refine Lac0 rfl trivial (ac_st sz_48 rfl rfl (by repeat constructor) rfl rfl rfl rfl) ?_
   rintro _ _ rfl
   refine Lnil (Gs.blk_n (Gn (Gs.reg (Lq rfl (by first | exact pu_addI rfl rfl rfl (by omega) (by omega) | exact pu_add rfl rfl) ?_))))
   refine Lmv rfl rfl (Lnt ?_)
   exact Gs.again1 (i + 1) hlt (by show xs.length - (i + 1) < xs.length - i; omega) (by repeat constructor) (by simp only [hst]; repeat constructor)
  have hst : maxS (xs.take (i + 1)) = maxS (xs.take i) := by rw [hsn, if_neg h0, hc1]; rfl
  refine Gs.skip (Gs.blk_n (Gn (Gs.reg (Lq rfl (by first | exact pu_addI rfl rfl rfl (by omega) (by omega) | exact pu_add rfl rfl) ?_))))
  refine Lmv rfl rfl (Lnt ?_)
  exact Gs.again1 (i + 1) hlt (by show xs.length - (i + 1) < xs.length - i; omega) (by repeat constructor) (by simp only [hst]; repeat constructor)
 have hge : i = xs.length := by have := of_decide_eq_false hc0; omega
 rw [hge, List.take_length]
 refine Gs.exit (Gx (Gx (Gs.blk_hit (Gn (Gsr (Lr rfl (rd_lda ag_48 rfl (Rdc.cl 2 (by repeat constructor) rfl) rfl) ?_))))))
 refine Lac0 rfl trivial (ac_st sz_48 rfl rfl (by repeat constructor) rfl rfl rfl rfl) ?_
 rintro _ _ rfl
 refine Lnt (Gs.ret ?_)
 exact Gs.finc1 Tryz.results60 ag_48 rfl (Rdc.cl 2 (by repeat constructor) rfl) rfl _ (⟨rfl, rfl⟩) (by repeat constructor)
theorem max2 (l s : Int × Int) : maxS [s, l] = topC l s := rfl
theorem csee_spec (b : Nat) (l s : Int × Int) (now : Int) (hl : clkB l = true) :
   Ct Tryz.prog 119 [ptr b, stV s, int now] [cl b 116 (clC l)]
     (fun v hs => v = int (seeC l s now).2 ∧ hs = [cl b 116 (clC (seeC l s now).1)]) := by
 have h1 := clkB_iff.1 hl
 refine Cti Tryz.func119 (by kernel_rfl) 55 Tryz.ntmps119 rfl rfl fun w0 R => ?_
 refine Gsr (La rfl (ac_box rfl rfl) ?_)
 rintro _ _ ⟨sb, rfl, rfl⟩
 refine Las rfl rfl (Lnt (Gs.seq (Gs.block (Gsr (Lmv rfl rfl (Lq rfl (pu_eqN Tryz.underlying68 rfl rfl) (Las rfl rfl (Lnt (Gs.cond_ff rfl rfl (Gsr (Lr rfl (rd_lda ag_48 rfl (Rdc.cl 2 (by repeat constructor) rfl) rfl) ?_)))))))))))
 refine La rfl (asC (stampMay_spec s.1 s.2)) ?_
 rintro _ _ ⟨_, ⟨rfl, rfl⟩, rfl⟩
 refine Lq rfl (pu_not rfl) (LpuB rfl rfl trivial (pu_move rfl) (fun hg3 => ?_) (fun hg3 => ?_))
 ·
  have hb : seeC l s now = (l, 2) := by unfold seeC; rw [show stampB s.1 s.2 = false from not_t hg3]; rfl
  refine Lof rfl (Lof rfl (Lof rfl (Lpk rfl rfl rfl (Las rfl rfl (Lnt (Gs.cond_t rfl (Gsr (Las rfl rfl (Lnt (Gs.ret (Gs.blk_r ?_)))))))))))
  refine Gr ?_
  exact Gs.fin1 Tryz.results119 rfl _ (⟨by rw [hb], by rw [hb]⟩) (by repeat constructor)
 have hs : clkB s = true := not_f hg3
 have h2 := clkB_iff.1 hs
 refine Lpu rfl rfl ⟨_, rfl, rfl⟩ (pu_move rfl) (Lac rfl rfl ⟨_, rfl, rfl⟩ (asC (wall_spec now)) ?_)
 rintro _ _ ⟨_, ⟨rfl, rfl⟩, rfl⟩
 refine Lpu rfl rfl ⟨_, rfl, rfl⟩ (pu_not rfl) (Lpk rfl rfl rfl (Las rfl rfl (Lnt (Gs.cond rfl (fun hc1 => ?_) (fun hc1 => ?_)))))
 ·
  have hb : seeC l s now = (l, 2) := by unfold seeC; rw [show stampB s.1 s.2 = true from hs, show clkW now = false from not_t hc1]; rfl
  refine Gsr (Las rfl rfl (Lnt (Gs.ret (Gs.blk_r (Gr ?_)))))
  exact Gs.fin1 Tryz.results119 rfl _ (⟨by rw [hb], by rw [hb]⟩) (by repeat constructor)
 have hw : clkW now = true := not_f hc1
 have h3 := clkW_iff.1 hw
 have hi : (stampB s.1 s.2 && clkW now) = true := by rw [show stampB s.1 s.2 = true from hs, hw]; rfl
 refine Gsr (Lq rfl (pu_fa fa_48_0 rfl) (Lr rfl (rd_ld na_3 rfl (Rdc.cl1 (by repeat constructor) rfl)) ?_))
 refine Lmv rfl rfl (Lq rfl (by first | exact pu_subI rfl rfl rfl (by omega) (by omega) | exact pu_sub rfl rfl) ?_)
 refine Lq rfl (pu_gt rfl rfl) (Las rfl rfl (Lnt (Gs.cond rfl (fun hc2 => ?_) (fun hc2 => ?_))))
 ·
  have hb : seeC l s now = (l, 5) := by unfold seeC; rw [if_pos hi, if_pos (of_decide_eq_true hc2)]
  refine Gsr (Las rfl rfl (Lnt (Gs.ret (Gs.blk_r (Gr ?_)))))
  exact Gs.fin1 Tryz.results119 rfl _ (⟨by rw [hb], by rw [hb]⟩) (by repeat constructor)
 have hk := of_decide_eq_false hc2
 refine Gs.seq (Gs.regD mixed (by kernel_rfl) (Rmv 0 rfl (by kernel_rfl) rfl (Rq 1 rfl (by kernel_rfl) (pu_fa fa_48_0 rfl) (Rr 2 rfl (by kernel_rfl) (rd_ld na_3 rfl (Rdc.cl1 (by repeat constructor) rfl)) ?_))))
 refine Rmv 3 rfl (by kernel_rfl) rfl (Rq 4 rfl (by kernel_rfl) (by first | exact pu_nil rfl | exact pu_nilF rfl) ?_)
 refine Rq 5 rfl (by kernel_rfl) (pu_fa fa_116_0 rfl) (Rq 6 rfl (by kernel_rfl) (pu_fa fa_48_0 rfl) (Rr 7 rfl (by kernel_rfl) (rd_ld na_3 rfl (Rdc.cl1 (by repeat constructor) rfl)) ?_))
 refine Rq 8 rfl (by kernel_rfl) (pu_max rfl rfl) (Rq 9 rfl (by kernel_rfl) (pu_gt rfl rfl) (Rq 10 rfl (by kernel_rfl) (pu_assign rfl) (Rg.end (by kernel_rfl) (Gn (Gs.cond rfl (fun hc3 => ?_) (fun hc3 => ?_))))))
 ·
  have hb : seeC l s now = setC l (now, 0) := by unfold seeC; rw [if_pos hi, if_neg hk, if_pos (of_decide_eq_true hc3)]
  refine Gsr (Lmv rfl rfl (Lmv rfl rfl (Lq rfl (pu_build bd_48 (by repeat constructor) rfl) ?_)))
  refine La rfl (asC (cset_spec b l _ _)) ?_
  rintro _ _ ⟨_, ⟨rfl, rfl⟩, rfl⟩
  refine Las rfl rfl (Lnt (Gs.ret (Gs.blk_r (Gr ?_))))
  exact Gs.fin1 Tryz.results119 rfl _ (⟨by rw [hb], by rw [hb]⟩) (by repeat constructor)
 have hb : seeC l s now = setC l ((topC l s).1, (topC l s).2 + 1) := by unfold seeC; rw [if_pos hi, if_neg hk, if_neg (of_decide_eq_false hc3)]
 have h4 := clkB_iff.1 (topC_ok hl hs)
 refine Gs.skip (Gs.blk_n (Gn (Gs.seq (Gs.regD mixed (by kernel_rfl) (Rr 0 rfl (by kernel_rfl) (rd_lda ag_48 rfl (Rdc.cl 2 (by repeat constructor) rfl) rfl) ?_)))))
 refine Rmv 1 rfl (by kernel_rfl) rfl (Rq 2 rfl (by kernel_rfl) (by first | exact pu_nil rfl | exact pu_nilF rfl) ?_)
 refine Rq 3 rfl (by kernel_rfl) (pu_fa fa_116_0 rfl) (Rr 4 rfl (by kernel_rfl) (rd_lda ag_48 rfl (Rdc.cl 2 (by repeat constructor) rfl) rfl) ?_)
 refine Rg.two (by kernel_rfl) (Stp.ac 5 rfl rfl (by kernel_rfl) trivial (ac_lit encC_48 ([s, l]) et_163 ek_48 rfl (by repeat constructor) rfl rfl (by decide))  ?_) (Stp.acK 7 rfl rfl (by kernel_rfl) trivial (ac_alloc zv_48 rfl) (by rintro _ _ ⟨nb, rfl, rfl⟩ w s; first | exact s.drop | exact s | exact Ent.sat (by repeat constructor) s) ?_)
 ·
  rintro _ _ ⟨a46, rfl, rfl⟩
  refine Rg.two (by kernel_rfl) (Stp.ac 6 rfl rfl (by kernel_rfl) trivial (asC (smax_spec (S := sl 48 2 clC (some ⟨a46, 0, none⟩) 2 [s, l]) (xs := [s, l]) Srd.own (Nat.le_of_ble_eq_true rfl)))  ?_) (Stp.ac 7 rfl rfl (by kernel_rfl) trivial (ac_alloc zv_48 rfl)  ?_)
  ·
   rintro _ _ ⟨_, ⟨rfl, rfl⟩, rfl⟩
   rw [max2]
   refine Rg.one (by kernel_rfl) (Stp.ac 7 rfl rfl (by kernel_rfl) trivial (ac_alloc zv_48 rfl)  ?_)
   rintro _ _ ⟨nb, rfl, rfl⟩
   refine Rg.one (by kernel_rfl) (Stp.ac0 8 rfl rfl (by kernel_rfl) trivial (ac_st sz_48 rfl rfl (by repeat constructor) rfl rfl rfl rfl)  ?_)
   rintro _ _ rfl
   refine Rg.end (by kernel_rfl) (Gn (Gsr (Lq rfl (pu_fa fa_48_1 rfl) (Lr rfl (rd_ld na_3 rfl (Rdc.cl1 (by repeat constructor) rfl)) ?_))))
   refine Lq rfl (by first | exact pu_addI rfl rfl rfl (by omega) (by omega) | exact pu_add rfl rfl) ?_
   refine Lq rfl (pu_fa fa_48_1 rfl) (Lac0 rfl trivial (ac_st sz_3 rfl rfl (by repeat constructor) rfl rfl rfl rfl) ?_)
   rintro _ _ rfl
   refine Lnt (Gsr (Lmv rfl rfl (Lr rfl (rd_lda ag_48 rfl (Rdc.cl 2 (by repeat constructor) rfl) rfl) ?_)))
   refine La rfl (asC (cset_spec b l _ _)) ?_
   rintro _ _ ⟨_, ⟨rfl, rfl⟩, rfl⟩
   refine Las rfl rfl (Lnt (Gs.ret ?_))
   exact Gs.fin1 Tryz.results119 rfl _ (⟨by rw [hb], by rw [hb]⟩) (by repeat constructor)
  rintro _ _ ⟨nb, rfl, rfl⟩
  refine Rg.one (by kernel_rfl) (Stp.ac 6 rfl rfl (by kernel_rfl) trivial (asC (smax_spec (S := sl 48 2 clC (some ⟨a46, 0, none⟩) 2 [s, l]) (xs := [s, l]) Srd.own (Nat.le_of_ble_eq_true rfl)))  ?_)
  rintro _ _ ⟨_, ⟨rfl, rfl⟩, rfl⟩
  rw [max2]
  refine Rg.one (by kernel_rfl) (Stp.ac0 8 rfl rfl (by kernel_rfl) trivial (ac_st sz_48 rfl rfl (by repeat constructor) rfl rfl rfl rfl)  ?_)
  rintro _ _ rfl
  refine Rg.end (by kernel_rfl) (Gn (Gsr (Lq rfl (pu_fa fa_48_1 rfl) (Lr rfl (rd_ld na_3 rfl (Rdc.cl1 (by repeat constructor) rfl)) ?_))))
  refine Lq rfl (by first | exact pu_addI rfl rfl rfl (by omega) (by omega) | exact pu_add rfl rfl) ?_
  refine Lq rfl (pu_fa fa_48_1 rfl) (Lac0 rfl trivial (ac_st sz_3 rfl rfl (by repeat constructor) rfl rfl rfl rfl) ?_)
  rintro _ _ rfl
  refine Lnt (Gsr (Lmv rfl rfl (Lr rfl (rd_lda ag_48 rfl (Rdc.cl 2 (by repeat constructor) rfl) rfl) ?_)))
  refine La rfl (asC (cset_spec b l _ _)) ?_
  rintro _ _ ⟨_, ⟨rfl, rfl⟩, rfl⟩
  refine Las rfl rfl (Lnt (Gs.ret ?_))
  exact Gs.fin1 Tryz.results119 rfl _ (⟨by rw [hb], by rw [hb]⟩) (by repeat constructor)
 rintro _ _ ⟨nb, rfl, rfl⟩
 refine Rg.one (by kernel_rfl) (Stp.ac 5 rfl rfl (by kernel_rfl) trivial (ac_lit encC_48 ([s, l]) et_163 ek_48 rfl (by repeat constructor) rfl rfl (by decide))  ?_)
 rintro _ _ ⟨a46, rfl, rfl⟩
 refine Rg.one (by kernel_rfl) (Stp.ac 6 rfl rfl (by kernel_rfl) trivial (asC (smax_spec (S := sl 48 2 clC (some ⟨a46, 0, none⟩) 2 [s, l]) (xs := [s, l]) Srd.own (Nat.le_of_ble_eq_true rfl)))  ?_)
 rintro _ _ ⟨_, ⟨rfl, rfl⟩, rfl⟩
 rw [max2]
 refine Rg.one (by kernel_rfl) (Stp.ac0 8 rfl rfl (by kernel_rfl) trivial (ac_st sz_48 rfl rfl (by repeat constructor) rfl rfl rfl rfl)  ?_)
 rintro _ _ rfl
 refine Rg.end (by kernel_rfl) (Gn (Gsr (Lq rfl (pu_fa fa_48_1 rfl) (Lr rfl (rd_ld na_3 rfl (Rdc.cl1 (by repeat constructor) rfl)) ?_))))
 refine Lq rfl (by first | exact pu_addI rfl rfl rfl (by omega) (by omega) | exact pu_add rfl rfl) ?_
 refine Lq rfl (pu_fa fa_48_1 rfl) (Lac0 rfl trivial (ac_st sz_3 rfl rfl (by repeat constructor) rfl rfl rfl rfl) ?_)
 rintro _ _ rfl
 refine Lnt (Gsr (Lmv rfl rfl (Lr rfl (rd_lda ag_48 rfl (Rdc.cl 2 (by repeat constructor) rfl) rfl) ?_)))
 refine La rfl (asC (cset_spec b l _ _)) ?_
 rintro _ _ ⟨_, ⟨rfl, rfl⟩, rfl⟩
 refine Las rfl rfl (Lnt (Gs.ret ?_))
 exact Gs.fin1 Tryz.results119 rfl _ (⟨by rw [hb], by rw [hb]⟩) (by repeat constructor)
end Go.Proofs.YtflfhpokmidnmaaGreatDoor
namespace Go.Proofs.YtflfhpokmidnmaaGreatDoor
open Go Go.Sl Go.Gv Go.Po
abbrev AscP (L : List PostP) : Prop := L.Pairwise fun a b => before a.1 b.1 = true
theorem ascP_of {L : List PostP} (h : mayB L = true) : AscP L := by
 have := may_asc h
 rwa [List.pairwise_map] at this
theorem mayFrom_of : ∀ {q : Option Key} {L : List PostP}, AscP L → (∀ p ∈ L, risesB p.2 = true) → (∀ k, q = some k → ∀ p ∈ L, before k p.1 = true) → mayFrom q L = true
 | _, [], _, _, _ => rfl
 | q, p :: L, ha, hr, hq => by
   have ha' := List.pairwise_cons.1 ha
   unfold mayFrom
   rw [hr p (by simp), Bool.true_and, Bool.and_eq_true]
   refine ⟨?_, mayFrom_of ha'.2 (fun x hx => hr x (by simp [hx])) fun k hk x hx => ?_⟩
   · cases q with
     | none => rfl
     | some k => exact hq k rfl p (by simp)
   · cases hk; exact ha'.1 x hx
theorem may_of {L : List PostP} (ha : AscP L) (hr : ∀ p ∈ L, risesB p.2 = true) : mayB L = true := mayFrom_of ha hr fun _ h => by cases h
section
variable {L : List PostP} {x : PostP} (hm : mayB L = true) (hx : risesB x.2 = true)
include hm hx
theorem put_is : putP L x = L.filter (fun y => before y.1 x.1) ++ [x] ++ L.filter (fun y => before x.1 y.1) := by rw [putP, if_pos hm, if_pos hx]
theorem put_may : mayB (putP L x) = true := by
 rw [put_is hm hx]
 have ha := ascP_of hm
 have h1 : AscP (L.filter fun y => before y.1 x.1) := List.Pairwise.filter _ ha
 have h2 : AscP (L.filter fun y => before x.1 y.1) := List.Pairwise.filter _ ha
 refine may_of (List.pairwise_append.2 ⟨List.pairwise_append.2 ⟨h1, List.pairwise_singleton .., fun u hu v hv => ?_⟩, h2, fun u hu v hv => ?_⟩) fun p hp => ?_
 · simp at hv; subst hv; exact (List.mem_filter.1 hu).2
 · have hv' := (List.mem_filter.1 hv).2
   rcases List.mem_append.1 hu with hu | hu
   · exact before_trans (List.mem_filter.1 hu).2 hv'
   · simp at hu; subst hu; exact hv'
 · rcases List.mem_append.1 hp with hp | hp
   · rcases List.mem_append.1 hp with hp | hp
     · exact may_rises hm p (List.mem_filter.1 hp).1
     · simp at hp; subst hp; exact hx
   · exact may_rises hm p (List.mem_filter.1 hp).1
end
end Go.Proofs.YtflfhpokmidnmaaGreatDoor
namespace Go.Proofs
open Go.Shelf
namespace YtflfhpokmidnmaaGreatDoor
open Go Go.Sl Go.Gv Go.Kv Go.Sort Go.Po
set_option maxRecDepth 100000
theorem grow2 (w : World) (o o' : Obj) : (w.alloc o).alloc o' = grow w #[o, o'] := by rw [alloc_eq_grow, alloc_eq_grow, grow_grow]; rfl
theorem before_exact (a1 a2 b1 b2 : Int) (w : World) : Calls Tryz.prog 85 #[.agg #[.int .i64 a1, .int .i64 a2], .agg #[.int .i64 b1, .int .i64 b2]] w fun e w' => e = .returned (.bool (before ⟨a1, a2⟩ ⟨b1, b2⟩)) ∧ ∃ os, w' = grow w os := by
 by_cases h : a1 = b1
 · go_enter Tryz.func85, Tryz.ntmps85
   subst h
   go_wp2
   go_ret
   exact ⟨by simp [before], _, grow2 ..⟩
 · go_enter Tryz.func85, Tryz.ntmps85
   go_wp2
   go_ret
   exact ⟨by simp [before, h], _, grow2 ..⟩
end YtflfhpokmidnmaaGreatDoor
end Go.Proofs
namespace Go.Ix
open Go Go.Sl Go.Gv Go.Kv Go.Po
section
variable {κ α β : Type} [DecidableEq κ]
def mm (f : α → β) (m : List (κ × α)) : List (κ × β) := m.map fun p => (p.1, f p.2)
theorem mm_get (f : α → β) : ∀ (m : List (κ × α)) (k : κ), mget (mm f m) k = (mget m k).map f
 | [], _ => rfl
 | (j, v) :: m, k => by
   show mget ((j, f v) :: mm f m) k = (mget ((j, v) :: m) k).map f
   unfold mget
   split
   · rfl
   · exact mm_get f m k
theorem mm_put (f : α → β) : ∀ (m : List (κ × α)) (k : κ) (v : α), mm f (mput m k v) = mput (mm f m) k (f v)
 | [], _, _ => rfl
 | (j, u) :: m, k, v => by
   show mm f (mput ((j, u) :: m) k v) = mput ((j, f u) :: mm f m) k (f v)
   unfold mput
   split
   · rfl
   · show (j, f u) :: mm f (mput m k v) = _; rw [mm_put f m k v]
theorem mem_put : ∀ {m : List (κ × α)} {k : κ} {v : α} {p : κ × α}, p ∈ mput m k v → p = (k, v) ∨ p ∈ m
 | [], _, _, _, h => by simp [mput] at h; exact .inl h
 | (j, u) :: m, k, v, p, h => by
   unfold mput at h
   split at h
   · rename_i e
     rcases List.mem_cons.1 h with h | h
     · exact .inl (by rw [h, e])
     · exact .inr (List.mem_cons_of_mem _ h)
   · rcases List.mem_cons.1 h with h | h
     · exact .inr (by rw [h]; exact List.mem_cons_self ..)
     · rcases mem_put h with h | h
       · exact .inl h
       · exact .inr (List.mem_cons_of_mem _ h)
end
abbrev PL : Type := List (ByteArray × List PostP)
abbrev PW : Type := List (Key × List ByteArray)
def plL (L : List (ByteArray × SlV PostV)) : PL := mm (fun s => s.xs.map PostV.p) L
def plW (W : List (Key × SlV ByteArray)) : PW := mm (fun s => s.xs) W
theorem fold_take {α β : Type} (f : β → α → β) (b : β) {l : List α} {i : Nat} {x : α} (h : l[i]? = some x) : (l.take (i + 1)).foldl f b = f ((l.take i).foldl f b) x := by
 rw [List.take_add_one, h, List.foldl_append]; rfl
end Go.Ix
namespace Go.Proofs.YtflfhpokmidnmaaGreatDoor
open Go Go.Sl Go.Gv Go.Kv Go.Po Go.Ix
set_option maxRecDepth 100000
theorem plL_get (L : List (ByteArray × SlV PostV)) (w : ByteArray) : (mget (plL L) w).getD [] = plain1 (lisT L w).xs := by
 rw [plL, mm_get, lisT]; cases mget L w <;> rfl
theorem RdL.put {S : HProp} {L : List (ByteArray × SlV PostV)} (h : RdL S L) {w : ByteArray} {a : Option Addr} {c : Nat} {qs : List PostV} (hq : ∀ q ∈ qs, q.t.xs.length ≤ 1000) (hl : qs.length ≤ 1000) : RdL (two S (plO a c qs)) (mput L w ⟨a, qs, c⟩) := fun p hp => by
 rcases mem_put hp with rfl | hp
 · exact ⟨(prd_plO hq).r, hl⟩
 · exact ⟨(h p hp).1.l, (h p hp).2⟩
theorem RdL.at {S : HProp} {L : List (ByteArray × SlV PostV)} (h : RdL S L) (w : ByteArray) : ∀ p ∈ (lisT L w).xs, p.t.xs.length ≤ 1000 := fun p hp => ((lisT_rd h w).1.2 p hp).2
end Go.Proofs.YtflfhpokmidnmaaGreatDoor
namespace Go.Sl
open Go
structure Fw (F : Fence) : Prop where
 fn : ∀ f, F.fn f
 depth : F.depth = none
 calls : ∀ (n : Nat) (P : Program) (f : FuncId) (args : Array Value) (w : World) (R : Ending → World → Prop), Calls P f args w R → CallsIn F n P f args w R
theorem Fw.wide : Fw Fence.wide := ⟨fun _ => trivial, rfl, fun _ _ _ _ _ _ h => callsIn_wide.2 h⟩
theorem Fw.round (l : Nat) : Fw (Fence.wide.inRound l) := ⟨fun _ => trivial, rfl, fun n P f args w R h => CallsIn.inRound l (callsIn_wide (n := n).2 h)⟩
def notDefer : Op → Bool
 | .defer _ => false
 | _ => true
section
variable {P : Program} {n m : Nat} {w0 : World} {env : Env} {H : List HProp} {F : Fence}
theorem Outc.wpIn (fw : Fw F) {R : Value → World → Prop} {o : Oper} {a : Act} {w : World} {K : Act → World → Prop} {Q : Exit → Act → World → Prop} (hd : notDefer o.op = true) (h : Outc P R ((execOp a.eval o).run P w)) (k : ∀ v w', R v w' → K (a.put o.dst v) w') : o.wpIn F m P a w K Q := by
 unfold Oper.wpIn
 refine ⟨fun f _ => fw.fn f, ?_⟩
 rw [Oper.semAt_eq _ _ _ (fun c e => by rw [e] at hd; cases hd)]
 generalize (execOp a.eval o).run P w = r at h
 cases r with
 | ok x w' =>
   cases x <;> simp only [Outc] at h <;> first
     | exact k _ _ h
     | (refine ⟨fun hs => (by rw [fw.depth] at hs; cases hs), fw.calls _ _ _ _ _ _ (h.mono ?_)⟩
        rintro e w'' ⟨v, rfl, hr⟩
        exact k _ _ hr)
 | _ => exact h.elim
variable {Q : Exit → Act → World → Prop}
theorem GI.block {i : Nat} {c : Code} (g : Gs w0 n env H (c.wpIn F m P (Exit.inBlock i Q))) : Gs w0 n env H ((Code.block i c).wpIn F m P Q) := fun a w e s => wpIn_block (g a w e s)
theorem GI.reg {id : Nat} {l : List Oper} (ks : List Nat) (hk : List.range l.length = ks) (g : Gs w0 n env H (wpOpsIn F m P l.toArray Q ks)) : Gs w0 n env H ((Code.region id l.toArray false).wpIn F m P Q) := fun a w e s => wpIn_region (by subst hk; simpa using g a w e s)
variable {ops : Array Oper} {rest : List Nat}
theorem GI.ac {k d : Nat} {o : Oper} {post : Value → List HProp → Prop} (fw : Fw F) (ho : ops[k]? = some o) (hd : o.dst = some d) (hdn : Nat.blt d n = true) (hg : o.guard = none) (hnd : notDefer o.op = true) (s : Ac P o w0 env H post)
   (g : ∀ v H', post v H' → Gs w0 n ((d, v) :: env) H' (wpOpsIn F m P ops Q rest)) : Gs w0 n env H (wpOpsIn F m P ops Q (k :: rest)) := fun a w e t => by
 have hw : Region.wanted o (yielded ops a.tmps) = true := by simp [Region.wanted, hg]
 simp only [wpOpsIn, ho, hw, if_true]
 refine (s a.eval w e.rho t).wpIn fw hnd fun v w' ⟨H', p, t'⟩ => ?_
 rw [hd]; exact g v H' p _ _ (e.put (by simpa [Nat.blt_eq] using hdn) v) t'
theorem GI.ac0 {k : Nat} {o : Oper} {post : Value → List HProp → Prop} (fw : Fw F) (ho : ops[k]? = some o) (hd : o.dst = none) (hg : o.guard = none) (hnd : notDefer o.op = true) (s : Ac P o w0 env H post)
   (g : ∀ v H', post v H' → Gs w0 n env H' (wpOpsIn F m P ops Q rest)) : Gs w0 n env H (wpOpsIn F m P ops Q (k :: rest)) := fun a w e t => by
 have hw : Region.wanted o (yielded ops a.tmps) = true := by simp [Region.wanted, hg]
 simp only [wpOpsIn, ho, hw, if_true]
 refine (s a.eval w e.rho t).wpIn fw hnd fun v w' ⟨H', p, t'⟩ => ?_
 rw [hd]; exact g v H' p _ _ e t'
theorem GI.rd {k d : Nat} {o : Oper} {v : Value} (fw : Fw F) (ho : ops[k]? = some o) (hd : o.dst = some d) (hdn : Nat.blt d n = true) (hg : o.guard = none) (hnd : notDefer o.op = true) (s : Rd P o w0 env H v)
   (g : Gs w0 n ((d, v) :: env) H (wpOpsIn F m P ops Q rest)) : Gs w0 n env H (wpOpsIn F m P ops Q (k :: rest)) :=
 GI.ac fw ho hd hdn hg hnd s.ac fun _ _ ⟨h1, h2⟩ => by subst h1; subst h2; exact g
theorem GI.nil (g : Gs w0 n env H (Q .normal)) : Gs w0 n env H (wpOpsIn F m P ops Q []) := g
theorem Gs.wide {c : Code} (g : Gs w0 n env H (c.wpIn Fence.wide m P Q)) : Gs w0 n env H (c.wp P Q) := fun a w e s => wpIn_wide.1 (g a w e s)
theorem Gs.begin {l : Nat} {r : Loop} (hr : r.state = .ready) {X : Act → World → Prop} (g : Gs w0 n env (pt l (.loop { r with state := .busy }) :: H) X) :
   Gs w0 n env (pt l (.loop r) :: H) (fun a w => ∃ w₂, (Instr.beginRound l).run P w = .ok () w₂ ∧ X a w₂) := fun a w e s => ⟨_, run_beginRound s.pt hr, g a _ e s.setMap⟩
theorem Gs.endRound {l : Nat} {r : Loop} {R : Ending → World → Prop} (k : ∀ w', Sat w0 w' (pt l (.loop { r with state := .ready, pending := none }) :: H) → R (.returned (.bool true)) w') :
   Gs w0 n env (pt l (.loop r) :: H) (roundPost P l R .normal) := fun a w e s => ⟨_, _, run_endRound none s.pt, k _ s.setMap⟩
theorem Ct.introM {f : FuncId} {fn : Func} {c : Code} {args : List Value} {pre : List HProp} {post : Value → List HProp → Prop}
   (hf : P.funcs[f]? = some fn) (hb : fn.body = some c) (hname : (fn.name == "runtime.NumGoroutine") = false) (n : Nat) (hn : fn.ntmps = n) (hle : args.length ≤ n)
   (g : ∀ w0 R, Gs w0 n (envOf args 0) (pre ++ R) (c.wp P (bodyPostM Fence.wide 0 P fn fun e w' => ∃ v hs, e = .returned v ∧ post v hs ∧ Sat w0 w' (hs ++ R)))) :
   Ct P f args pre post := by
 refine ⟨Go.Proofs.enters_of hf hname hb args.toArray, fun w0 w R s => (callsIn_wide (n := 0)).1 (callsIn_of_wp_marks hf hb trivial (wpIn_wide.2 (g w0 R _ _ ⟨?_, rfl, ?_⟩ s)))⟩
 · simp [hn]; omega
 · intro t v h
   obtain ⟨-, h⟩ := lk_envOf args 0 t v h
   have hl := (List.getElem?_eq_some_iff.1 h).1
   simp only [Nat.sub_zero] at h hl
   simp [Array.getD_eq_getD_getElem?, Array.getElem?_append, hl, (List.getElem?_eq_some_iff.1 h).2]
theorem Sat.alloc2 {w : World} {L : List HProp} (s : Sat w0 w L) (o o' : Obj) : Sat w0 ((w.alloc o).alloc o') (Sl.pt (w.heap.size + 1) o' :: Sl.pt w.heap.size o :: L) := by
 have h := Sat.alloc (s.alloc o) o'
 have hsz : ({ w with heap := w.heap.push o } : World).heap.size = w.heap.size + 1 := by simp
 rw [hsz] at h; exact h
theorem tail_rd {l : List Oper} {o : Oper} {rest : List Oper} {d : Nat} {v : Value} {a : Act} {w : World} (ho : o.dst = some d) (hg : o.guard = none) (s : Rd P o w0 env H v) (rho : Rho env a.eval) (t : Sat w0 w H)
   (g : ∀ w', Sat w0 w' H → wpList P l.toArray Q rest (a.put (some d) v) w') : wpList P l.toArray Q (o :: rest) a w := by
 refine wpList_step fun K hK => ?_
 rw [if_pos (by simp [Region.wanted, hg])]
 refine (s.ac a.eval w rho t).wp fun v' w' ⟨H', ⟨hv, hH⟩, t'⟩ => hK _ _ ?_
 subst hv; subst hH; rw [ho]; exact g w' t'
theorem wp_rangeCall {x : Operand} {ps : Array Tmp} {assign body : Code} {a : Act} {w : World} {gf : FuncId} {cs : Array Value} (hg : a.eval x = .func (.func gf) #[] cs) (hen : ∀ args w, (callFunc gf args).run P w = .ok (.enter gf args) w)
   (h : ∀ fn r, r = ({ state := .ready, pending := none, fn, tmps := a.tmps, params := ps, assign, body, defers := w.heap.size } : Loop) → Calls P gf (#[.func (.yield (w.heap.size + 1)) #[] #[]] ++ cs) ((w.alloc (.deferred (some []))).alloc (.loop r)) fun e w' =>
     ∃ v w4, e = .returned v ∧ (Instr.endLoop (w.heap.size + 1)).run P w' = .ok none w4 ∧ Q .normal { a with defers := [{ target := .collected w.heap.size, args := #[] }] ++ a.defers } w4) :
   (Code.rangeFunc x ps assign body).wp P Q a w := by
 refine (wpIn_wide (n := 0)).1 (wpIn_rangeFunc (F := Fence.wide) (n := 0) fun fn _ => ?_)
 refine ⟨w.heap.size + 1, [{ target := .collected w.heap.size, args := #[] }], (w.alloc (.deferred (some []))).alloc (.loop { state := .ready, pending := none, fn, tmps := a.tmps, params := ps, assign, body, defers := w.heap.size }),
   { target := .fn (.func gf) cs, args := #[.func (.yield (w.heap.size + 1)) #[] #[]] }, (w.alloc (.deferred (some []))).alloc (.loop { state := .ready, pending := none, fn, tmps := a.tmps, params := ps, assign, body, defers := w.heap.size }), gf,
   #[.func (.yield (w.heap.size + 1)) #[] #[]] ++ cs, (w.alloc (.deferred (some []))).alloc (.loop { state := .ready, pending := none, fn, tmps := a.tmps, params := ps, assign, body, defers := w.heap.size }), run_enterLoop_outer _ _ _ _ _, ?_, fun _ _ => trivial, ?_, (fun h => by cases h), ?_⟩
 · simp only [resolve, hg]
   simp [go_sem]
 · simp [invoke, go_sem, hen]
 · refine callsIn_wide.2 ((h fn _ rfl).mono ?_)
   rintro e w' ⟨v, w4, rfl, h1, h2⟩
   exact ⟨none, w4, h1, h2⟩
end
end Go.Sl
namespace Go.Proofs.YtflfhpokmidnmaaGreatDoor
open Go Go.Sl Go.Gv Go.Kv Go.Po Go.Ix
set_option maxRecDepth 100000
theorem l_erase_perm {α : Type} : ∀ {l : List α} {i : Nat} {x : α}, l[i]? = some x → List.Perm (x :: l.eraseIdx i) l
 | [], _, _, h => by simp at h
 | a :: l, 0, x, h => by simp at h; subst h; exact List.Perm.refl _
 | a :: l, i + 1, x, h => by
   have := l_erase_perm (l := l) (i := i) (x := x) (by simpa using h)
   exact (List.Perm.swap a x _).trans (this.cons a)
end Go.Proofs.YtflfhpokmidnmaaGreatDoor
namespace Go.Proofs.YtflfhpokmidnmaaGreatDoor
open Go Go.Sl Go.Gv Go.Kv Go.Po Go.Ix
set_option maxRecDepth 100000
def t_YOk (P : Program) (l : Nat) (J : List ByteArray → HProp) : Prop := ∀ (pre : List ByteArray) (x : ByteArray) (w0 w : World) (R : List HProp), pre.length < 100000 → Sat w0 w (J pre :: R) → ∃ f tmps assign body, (Instr.yield l #[strV x]).run P w = .ok (.round l f tmps assign body) w ∧
 ∀ m, RoundIn Fence.wide m P l f tmps assign body w fun e w' => e = .returned (.bool true) ∧ Sat w0 w' (J (pre ++ [x]) :: R)
theorem t_erase_perm {α : Type} : ∀ {l : List α} {i : Nat} {x : α}, l[i]? = some x → List.Perm (x :: l.eraseIdx i) l
 | [], _, _, h => by simp at h
 | a :: l, 0, x, h => by simp at h; subst h; exact List.Perm.refl _
 | a :: l, i + 1, x, h => by
   have := t_erase_perm (l := l) (i := i) (x := x) (by simpa using h)
   exact (List.Perm.swap a x _).trans (this.cons a)
theorem Gs.t_yieldAt {l : Nat} {J : List ByteArray → HProp} (hY : t_YOk Tryz.prog l J) {w0 : World} {n m k dd : Nat} {env : Env} {H : List HProp} {Q : Exit → Act → World → Prop} {ops : Array Oper} {rest : List Nat} {x y : Operand} {ts : Array TypeId} {ty : TypeId} {pos : String} {af : Array Edge} {pre : List ByteArray} (z : ByteArray)
   (hpl : pre.length < 100000) (ho : ops[k]? = some ⟨some dd, .call ⟨.value x, #[y], ts⟩, ty, pos, af, none⟩) (hdn : Nat.blt dd n = true) (hx : ev env x = some (.func (.yield l) #[] #[])) (hy : ev env y = some (strV z))
   (g : Gs w0 n ((dd, .bool true) :: env) (J (pre ++ [z]) :: H) (wpOpsIn Fence.wide m Tryz.prog ops Q rest)) : Gs w0 n env (J pre :: H) (wpOpsIn Fence.wide m Tryz.prog ops Q (k :: rest)) := fun a w e t => by
 obtain ⟨f, tmps, assign, body, h1, h2⟩ := hY pre z w0 w H hpl t
 have hw : Region.wanted ⟨some dd, .call ⟨.value x, #[y], ts⟩, ty, pos, af, none⟩ (yielded ops a.tmps) = true := by simp [Region.wanted]
 have hr : (execOp a.eval ⟨some dd, .call ⟨.value x, #[y], ts⟩, ty, pos, af, none⟩).run Tryz.prog w = .ok (.round l f tmps assign body) w := by
   show (do let d ← resolve a.eval ⟨.value x, #[y], ts⟩ ty; invoke d.target d.args : Sem Next).run Tryz.prog w = _
   have hr1 : resolve a.eval ⟨.value x, #[y], ts⟩ ty = (pure ⟨.fn (.yield l) #[], #[strV z]⟩ : Sem Deferred) := by
     simp only [resolve, e.eval hx, Deferred.ofValue]
     simp [e.eval hy]
   rw [hr1]
   simp only [Sem.run_bind, Sem.run_pure, Result.andThen_ok, invoke]
   exact h1
 simp only [wpOpsIn, ho, hw, if_true]
 unfold Oper.wpIn
 refine ⟨fun _ _ => trivial, ?_⟩
 rw [show Fence.wide.round = none from rfl, Oper.semAt_none, hr]
 refine ⟨(fun hs => by cases hs), (h2 (m - 1)).mono ?_⟩
 rintro e' w' ⟨rfl, t'⟩
 exact g _ _ (e.put (by simpa [Nat.blt_eq] using hdn) _) t'
theorem t_keysFn_spec (m : Nat) : Ct Tryz.prog 137 [.map (some m)] []
   (fun v hs => ∃ b, v = .func (.func 168) #[] #[.pointer (some ⟨b, 0, none⟩)] ∧ hs = [cl b 210 [.map (some m)]]) := by
 refine Cti Tryz.func137 (by kernel_rfl) 4 Tryz.ntmps137 rfl rfl fun w0 R => ?_
 refine Gsr (La rfl (ac_box rfl rfl) ?_)
 rintro _ _ ⟨b, rfl, rfl⟩
 refine Las rfl rfl (Lnt (Gsr (Lq rfl (pu_func (by repeat constructor) (by repeat constructor)) ?_)))
 refine Las rfl rfl (Lnt (Gs.ret ?_))
 exact Gs.fin1 Tryz.results137 rfl _ (⟨b, rfl, rfl⟩) (by repeat constructor)
theorem t_iter_spec {l : Nat} {J : List ByteArray → HProp} (hY : t_YOk Tryz.prog l J) (b m : Nat) (es : List (ByteArray × (SlV Int))) (hes : es.length ≤ 100000) :
   Ct Tryz.prog 168 [.func (.yield l) #[] #[], .pointer (some ⟨b, 0, none⟩)] [J [], cl b 210 [.map (some m)], mp strV slV m es]
     (fun _ hs => ∃ xs, List.Perm xs (mkeys es) ∧ hs = [J xs, cl b 210 [.map (some m)], mp strV slV m es]) := by
 refine Cti Tryz.func168 (by kernel_rfl) 14 Tryz.ntmps168 rfl rfl fun w0 R => ?_
 refine Gsr (Lr rfl (rd_ld na_210 rfl (Rdc.cl1 (by repeat constructor) rfl)) ?_)
 refine La rfl (ac_range (enck := strV) (encv := slV) Tryz.underlying210 rfl (by repeat constructor)) ?_
 rintro _ _ ⟨r, rfl, rfl⟩
 refine Lnt (Gs.block (Gs.loop1 (fun s : List ByteArray × List (ByteArray × (SlV Int)) × Option (ByteArray × (SlV Int)) => List.Perm (s.1 ++ mkeys s.2.1) (mkeys es)) (fun s => [(0, .func (.yield l) #[] #[]), (5, .pointer (some ⟨r, 0, none⟩))]) (fun s => [itr strV slV r m es s.2.1 s.2.2, J s.1, cl b 210 [.map (some m)]] ++ R) (fun s => s.2.1.length) ([], es, none) (List.Perm.refl _) (by repeat constructor) (by repeat constructor) (fun s hs => ?_)))
 obtain ⟨pre, left, last⟩ := s
 dsimp only at hs ⊢
 refine Gsr (La rfl (ac_next rfl (by repeat constructor)) ?_)
 rintro _ _ (⟨hl, rfl, rfl⟩ | ⟨i, p, hp, rfl, rfl⟩)
 ·
  have hl' : left = [] := hl
  subst hl'
  refine Gs.itrEnd (by repeat constructor) ?_
  refine Lq rfl (pu_extract rfl rfl) (Lnt (Gs.seq (Gs.cond_f rfl (Gs.exit (Gx (Gx (Gs.blk_hit (Gs.fin_n ?_))))))))
  exact Gs.fin0 Tryz.results168 _ (⟨pre, by simpa [mkeys] using hs, rfl⟩) (by repeat constructor)
 have hperm : List.Perm ((pre ++ [p.1]) ++ mkeys (left.eraseIdx i)) (mkeys es) := by
   refine List.Perm.trans ?_ hs
   rw [List.append_assoc]
   refine List.Perm.append_left pre ?_
   have h1 : List.Perm (p :: left.eraseIdx i) left := t_erase_perm hp
   exact h1.map Prod.fst
 have hlt : (left.eraseIdx i).length < left.length := by
   have := (List.getElem?_eq_some_iff.1 hp).1
   rw [List.length_eraseIdx_of_lt this]; omega
 have hpl : pre.length < 100000 := by
   have h1 := hs.length_eq
   have h2 := (List.getElem?_eq_some_iff.1 hp).1
   simp [mkeys] at h1; omega
 refine Lq rfl (pu_extract rfl rfl) (Lnt (Gs.seq (Gs.cond_t rfl (Gs.skip (Gn (Gs.block (Gsr (Lr rfl (ac_entry rfl (by repeat constructor)) ?_))))))))
 refine Lq rfl (pu_extract rfl rfl) (Las rfl rfl (Lnt (Gs.seq (Gs.wide (m := 0) ?_))))
 refine GI.reg [0, 1, 2, 3] rfl (GI.rd Fw.wide rfl rfl rfl rfl rfl (Pu.rd (pu_move rfl)) (GI.rd Fw.wide rfl rfl rfl rfl rfl (Pu.rd (pu_move rfl)) (Gs.take (A := J pre) (by repeat constructor) ?_)))
 refine Gs.t_yieldAt hY p.1 hpl rfl rfl rfl rfl (GI.rd Fw.wide rfl rfl rfl rfl rfl (Pu.rd (pu_not rfl)) (GI.nil (Gn (Gs.cond_f rfl (Gs.skip (Gs.blk_n (Gn ?_)))))))
 exact Ag (pre ++ [p.1], left.eraseIdx i, some p) hperm hlt
def t_colJ (l b2 : Nat) (r : Loop) (pre : List ByteArray) : HProp := fun h => ∃ p : Option Addr × Nat, two (pt l (.loop r)) (two (cl b2 22 [.slice p.1 pre.length p.2]) (sl 9 1 strC p.1 p.2 pre)) h
theorem t_colJ_fold {l b2 n : Nat} {r : Loop} {pre : List ByteArray} {a : Option Addr} {c : Nat} {w0 w : World} {L : List HProp} (hn : n = pre.length) (s : Sat w0 w (pt l (.loop r) :: cl b2 22 [.slice a n c] :: sl 9 1 strC a c pre :: L)) : Sat w0 w (t_colJ l b2 r pre :: L) := by
 subst hn
 have s1 : Sat w0 w (cl b2 22 [.slice a pre.length c] :: sl 9 1 strC a c pre :: pt l (.loop r) :: L) := (s.take (.tl (.tl .hd))).take (.tl (.tl .hd))
 exact (Sat.two.2 ((Sat.two.2 s1).take (.tl .hd))).ent fun h x => ⟨(a, c), x⟩
theorem t_colJ_open {l b2 : Nat} {r : Loop} {pre : List ByteArray} {w0 w : World} {L : List HProp} (s : Sat w0 w (t_colJ l b2 r pre :: L)) : ∃ a c, Sat w0 w (pt l (.loop r) :: cl b2 22 [.slice a pre.length c] :: sl 9 1 strC a c pre :: L) := by
 obtain ⟨p, s1⟩ := s.ex
 have s2 := Sat.two.1 ((Sat.two.1 s1).take (.tl .hd))
 exact ⟨p.1, p.2, s2.take (.tl (.tl .hd))⟩
theorem t_collect_seq (b m : Nat) (es : List (ByteArray × (SlV Int))) (hl : es.length ≤ 100000) :
   Ct Tryz.prog 141 [.slice none 0 0, .func (.func 168) #[] #[.pointer (some ⟨b, 0, none⟩)]]
     [cl b 210 [.map (some m)], mp strV slV m es] (fun v hs => ∃ xs a c, List.Perm xs (mkeys es) ∧ v = .slice a xs.length c ∧ hs = [sl 9 1 strC a c xs, mp strV slV m es]) := by
 refine Ct.introM Tryz.func141 rfl (by kernel_rfl) 13 Tryz.ntmps141 (Nat.le_of_ble_eq_true rfl) fun w0 R => ?_
 refine Gsr (La rfl (ac_box rfl rfl) ?_)
 rintro _ _ ⟨b2, rfl, rfl⟩
 refine Las rfl rfl (Lnt (Gs.seq (Gsr (Lmv rfl rfl (Lnt (Gs.block (Gs.slNil 9 1 strC ?_)))))))
 intro a w e s
 have hen : ∀ args w, (callFunc 168 args).run Tryz.prog w = .ok (.enter 168 args) w := Go.Proofs.enters_of Tryz.func168 (by kernel_rfl) rfl
 have he : a.eval (.tmp 6) = .func (.func 168) #[] #[.pointer (some ⟨b, 0, none⟩)] := e.eval rfl
 refine wp_rangeCall he hen fun fn r hr => ?_
 have sat1 := s.alloc2 (.deferred (some [])) (.loop r)
 have hY : t_YOk Tryz.prog (w.heap.size + 1) (t_colJ (w.heap.size + 1) b2 r) := by
   intro pre x w1 w' R' hpl hs
   obtain ⟨a', c', s1⟩ := t_colJ_open hs
   refine ⟨r.fn, _, r.assign, r.body, run_yield s1.pt (by rw [hr]; rfl), fun m => roundIn_of_wpIn trivial ?_⟩
   have ht : (r.params.zip #[strV x]).foldl (fun tmps (t, a) => tmps.setIfInBounds t a) r.tmps = (a.put (some 7) (strV x)).tmps := by rw [hr]; simp [Act.put]
   have e7 : EnvOk 13 [(7, strV x), (2, .pointer (some ⟨b2, 0, none⟩))] ⟨(r.params.zip #[strV x]).foldl (fun tmps (t, a) => tmps.setIfInBounds t a) r.tmps, []⟩ := by
     rw [ht]
     have e8 := (e.put (d := 7) (by decide) (strV x)).sub (e := [(7, strV x), (2, .pointer (some ⟨b2, 0, none⟩))]) (by repeat constructor)
     exact ⟨e8.size, rfl, e8.slots⟩
   refine (?_ : Gs w1 13 [(7, strV x), (2, .pointer (some ⟨b2, 0, none⟩))] _ _) _ _ e7 s1
   subst hr
   refine GI.reg [0] rfl (GI.rd (Fw.round _) rfl rfl rfl rfl rfl (Pu.rd (pu_assign rfl)) (GI.nil (Gn (Gs.take .hd (Gs.begin rfl (GI.block (GI.reg [0, 1, 2, 3, 4] rfl (GI.rd (Fw.round _) rfl rfl rfl rfl rfl (rd_ld na_22 rfl (Rdc.cl1 (by repeat constructor) rfl)) ?_))))))))
   refine GI.rd (Fw.round _) rfl rfl rfl rfl rfl (Pu.rd (pu_move rfl)) (GI.ac (Fw.round _) rfl rfl rfl rfl rfl (ac_lit strC [x] et_22 ek_9 rfl (by repeat constructor) rfl rfl (by decide)) ?_)
   rintro _ _ ⟨lb, rfl, rfl⟩
   refine GI.ac (Fw.round _) rfl rfl rfl rfl rfl (ac_append (xs := pre) et_22 ek_9 rfl rfl (by repeat constructor) (SrcH.sl Tryz.underlying22 ek_9 (SlH.own (by repeat constructor))) (by simp; omega) (by simp; omega)) ?_
   rintro _ _ ⟨a2, c2, rfl, rfl⟩
   refine GI.ac0 (Fw.round _) rfl rfl rfl rfl (ac_st sz_22 rfl rfl (by repeat constructor) rfl rfl rfl rfl) ?_
   rintro _ _ rfl
   refine GI.nil (Gs.blk_n (Gs.take (A := pt (w.heap.size + 1) (.loop _)) (by repeat constructor) ?_))
   refine Gs.endRound fun w'' s'' => ⟨rfl, t_colJ_fold (a := a2) (c := c2) rfl (Ent.sat (by repeat constructor) s'')⟩
 have satJ : Sat w0 ((w.alloc (.deferred (some []))).alloc (.loop r)) ([t_colJ (w.heap.size + 1) b2 r [], cl b 210 [.map (some m)], mp strV slV m es] ++ (pt w.heap.size (.deferred (some [])) :: R)) := by
   have := sat1.takes (As := [pt (w.heap.size + 1) (.loop r), cl b2 22 [.slice none 0 0], sl 9 1 strC none 0 [], cl b 210 [.map (some m)], mp strV slV m es]) (by repeat constructor)
   exact t_colJ_fold rfl this
 refine ((t_iter_spec hY b m es hl).calls w0 _ _ satJ).mono ?_
 rintro e' w' ⟨v, hs, rfl, ⟨xs, hp, rfl⟩, sat2⟩
 obtain ⟨a', c', s3⟩ := t_colJ_open sat2
 have hend := run_endLoop (P := Tryz.prog) s3.pt (by rw [hr]; simp)
 rw [show r.pending = none by rw [hr]] at hend
 refine ⟨v, _, rfl, hend, ?_⟩
 have s4 : Sat w0 (w'.putObj (w.heap.size + 1) (.loop { r with state := .exhausted, pending := none })) _ := s3.setMap
 have rho : Rho [(2, .pointer (some ⟨b2, 0, none⟩))] a.eval := (e.sub (e := [(2, .pointer (some ⟨b2, 0, none⟩))]) (by repeat constructor)).rho
 refine wp_seq (wp_region_lit ?_)
 refine tail_rd rfl rfl (rd_ld na_22 rfl (Rdc.cl1 (by repeat constructor) rfl)) rho s4 fun w5 s5 => ?_
 have e5 := (e.put (d := 12) (by decide) (.slice a' xs.length c'))
 have rho5 : Rho [(12, .slice a' xs.length c')] (({ a with defers := [{ target := .collected w.heap.size, args := #[] }] ++ a.defers } : Act).put (some 12) (.slice a' xs.length c')).eval :=
   (e5.sub (e := [(12, .slice a' xs.length c')]) (by repeat constructor)).rho
 refine tail_rd rfl rfl (Pu.rd (pu_assign rfl)) rho5 s5 fun w6 s6 => ?_
 have e6 := (e5.put (d := 4) (by decide) (.slice a' xs.length c'))
 refine wp_ret ?_
 have s7 := s6.take (A := pt w.heap.size (.deferred (some []))) (by repeat constructor)
 have hds : a.defers = [] := e.defers
 show LeavesInM Fence.wide 0 _ _ _ _ ({ target := .collected w.heap.size, args := #[] } :: a.defers) .returning w6
 rw [hds]
 refine ⟨by simp, .inl ⟨w.heap.size, _, rfl, run_takeDeferred s7.pt, ?_⟩⟩
 have s8 : Sat w0 (w6.putObj w.heap.size (.deferred none)) _ := s7.setMap (o' := .deferred none)
 refine ⟨_, results_tmp Tryz.results141 _ _ _, _, _, rfl, ⟨xs, a', c', hp, ?_, rfl⟩, Ent.sat (by repeat constructor) s8⟩
 exact e6.slots 4 _ rfl
theorem t_collect_spec (b m : Nat) (es : List (ByteArray × (SlV Int))) (hl : es.length ≤ 100000) :
   Ct Tryz.prog 112 [.func (.func 168) #[] #[.pointer (some ⟨b, 0, none⟩)]]
     [cl b 210 [.map (some m)], mp strV slV m es] (fun v hs => ∃ xs a c, List.Perm xs (mkeys es) ∧ v = .slice a xs.length c ∧ hs = [sl 9 1 strC a c xs, mp strV slV m es]) := by
 refine Cti Tryz.func112 (by kernel_rfl) 5 Tryz.ntmps112 rfl rfl fun w0 R => ?_
 refine Gsr (Las rfl rfl (Lnt (Gsr (Lmv rfl rfl (La rfl (asC (t_collect_seq b m es hl)) ?_)))))
 rintro _ _ ⟨_, ⟨xs, a, c, hp, rfl, rfl⟩, rfl⟩
 refine Las rfl rfl (Lnt (Gs.ret ?_))
 exact Gs.fin1 Tryz.results112 rfl _ (⟨xs, a, c, hp, rfl, rfl⟩) (by repeat constructor)
end Go.Proofs.YtflfhpokmidnmaaGreatDoor
namespace Go.Proofs.YtflfhpokmidnmaaGreatDoor
open Go Go.Sl Go.Gv Go.Kv Go.Po Go.Ix
set_option maxRecDepth 100000
end Go.Proofs.YtflfhpokmidnmaaGreatDoor
namespace Go.Bst
def okB (c : UInt8) : Bool := (97 ≤ c && c ≤ 122) || (48 ≤ c && c ≤ 57) || c == 46
def namedB (s : ByteArray) : Bool := decide (1 ≤ s.size) && decide (s.size ≤ 20) && s.data.toList.all okB
def asciiB (s : ByteArray) : Bool := s.data.toList.all fun c => decide (c.toNat < 128)
def sortB (l : List ByteArray) : List ByteArray := ((l.map fun s => s.data.toList).mergeSort fun x y => decide (x ≤ y)).map fun b => ⟨b.toArray⟩
theorem of_list (s : ByteArray) : (⟨s.data.toList.toArray⟩ : ByteArray) = s := by cases s; rfl
theorem sortB_perm (l : List ByteArray) : List.Perm (sortB l) l := by
 unfold sortB
 refine ((List.mergeSort_perm _ _).map _).trans ?_
 rw [List.map_map]
 have : ((fun b : List UInt8 => (⟨b.toArray⟩ : ByteArray)) ∘ fun s : ByteArray => s.data.toList) = id := by funext s; exact of_list s
 rw [this, List.map_id]
theorem sortB_length {l : List ByteArray} : (sortB l).length = l.length := (sortB_perm l).length_eq
theorem sortB_of_perm {l m : List ByteArray} (p : List.Perm l m) : sortB l = sortB m := by
 unfold sortB
 congr 1
 have tr : ∀ a b c : List UInt8, decide (a ≤ b) = true → decide (b ≤ c) = true → decide (a ≤ c) = true := fun a b c h1 h2 => by
   simp only [decide_eq_true_eq] at *; exact List.le_trans h1 h2
 have tot : ∀ a b : List UInt8, (decide (a ≤ b) || decide (b ≤ a)) = true := fun a b => by
   rcases List.le_total a b with h | h <;> simp [h]
 refine List.Perm.eq_of_pairwise (le := fun x y => decide (x ≤ y) = true) ?_ (List.pairwise_mergeSort tr tot _) (List.pairwise_mergeSort tr tot _) (((List.mergeSort_perm _ _).trans (p.map _)).trans (List.mergeSort_perm _ _).symm)
 intro a b _ _ h1 h2
 simp only [decide_eq_true_eq] at h1 h2
 exact List.le_antisymm h1 h2
theorem sortB_eq {l m : List ByteArray} (p : List.Perm l m) (h : m.Pairwise fun a b => a.data.toList ≤ b.data.toList) : sortB l = m := by
 rw [sortB_of_perm p]
 unfold sortB
 have e : ((m.map fun s => s.data.toList).mergeSort fun x y => decide (x ≤ y)) = m.map fun s => s.data.toList := by
   apply List.mergeSort_of_pairwise
   rw [List.pairwise_map]
   exact h.imp fun h => by simpa using h
 rw [e, List.map_map]
 have : ((fun b : List UInt8 => (⟨b.toArray⟩ : ByteArray)) ∘ fun s : ByteArray => s.data.toList) = id := by funext s; exact of_list s
 rw [this, List.map_id]
end Go.Bst
namespace Go.Sl
open Go Go.Sort Go.Proofs
section
variable {α : Type} {w0 w : World} {L : List HProp} {E : Nat} {enc : α → Value} {b off c : Nat} {xs : List α}
theorem sl1_block (s : Sat w0 w (sl E 1 (fun x => [enc x]) (some ⟨b, off, none⟩) c xs :: L)) : ∃ cells, Sat w0 w (pt b (.cells cells E (0, 0)) :: L) ∧ w.heap[b]? = some (.cells cells E (0, 0)) ∧ xs.length ≤ c ∧ off + c ≤ cells.size ∧
   ∀ i x, xs[i]? = some x → cells[off + i]? = some (enc x) := by
 obtain ⟨h, le, h1, h2, d, rfl, hs, hl⟩ := s.heap
 rcases hs with ⟨h0, -, -⟩ | ⟨b', off', cells, hb, hp, h3, h4, h5⟩
 · cases h0
 · cases hb
   have s1 : Sat w0 w (pt b (.cells cells E (0, 0)) :: L) := ⟨s.os, s.tape, s.output, s.size, _, le, h1, h2, d, rfl, hp, hl⟩
   exact ⟨cells, s1, s1.pt, h3, by omega, fun i x hi => by have := h5 i x hi 0 (enc x) rfl; simpa using this⟩
variable [Inhabited α]
theorem sl1_holds (s : Sat w0 w (sl E 1 (fun x => [enc x]) (some ⟨b, off, none⟩) c xs :: L)) : Holds enc w b off xs.toArray ∧ b < w.heap.size := by
 obtain ⟨cells, -, hb, h3, h4, h5⟩ := sl1_block s
 refine ⟨fun j hj => ?_, (Array.getElem?_eq_some_iff.1 hb).1⟩
 simp only [List.size_toArray] at hj
 have hx : xs[j]? = some xs[j] := by simp [hj]
 have hc := h5 _ _ hx
 have e1 : xs.toArray[j]! = xs[j] := by rw [getElem!_pos _ _ (by simpa using hj)]; simp
 refine ⟨?_, by simp [World.frozen?, hb]⟩
 rw [e1]
 simpa [World.cell?, hb] using hc
theorem sl1_sorted {ys : List α} {n : Nat} {os : Array Obj} (hl : ys.length = xs.length) (s : Sat w0 w (sl E 1 (fun x => [enc x]) (some ⟨b, off, none⟩) c xs :: L)) :
   Sat w0 (grow (putRow enc (Sort.ahead w n) b off ys.toArray) os) (sl E 1 (fun x => [enc x]) (some ⟨b, off, none⟩) c ys :: L) := by
 obtain ⟨cells, s1, hb, h3, h4, h5⟩ := sl1_block s
 have hblt := (Array.getElem?_eq_some_iff.1 hb).1
 have hsz : (putRow enc (Sort.ahead w n) b off ys.toArray).heap.size = w.heap.size := by simp [putRow, mapBlock, Sort.ahead]
 have hnew : (grow (putRow enc (Sort.ahead w n) b off ys.toArray) os).heap[b]? = some (.cells (putCells enc off ys.toArray cells) E (0, 0)) := by
   rw [heap_grow_old _ _ (by rw [hsz]; exact hblt)]
   simp [putRow, mapBlock, Sort.ahead, Array.getElem?_modify, hb, onCells]
 have hold : ∀ k, k ≠ b → k < w.heap.size → (grow (putRow enc (Sort.ahead w n) b off ys.toArray) os).heap[k]? = w.heap[k]? := fun k hk hlt => by
   rw [heap_grow_old _ _ (by rw [hsz]; exact hlt)]
   have : b ≠ k := fun e => hk e.symm
   simp [putRow, mapBlock, Sort.ahead, Array.getElem?_modify, this]
 refine (s1.write (w' := grow (putRow enc (Sort.ahead w n) b off ys.toArray) os) rfl rfl rfl (by show w.heap.size ≤ ((putRow enc (Sort.ahead w n) b off ys.toArray).heap ++ os).size; rw [Array.size_append, hsz]; omega) hnew hold).ent fun hh hp => .inr ⟨b, off, _, rfl, hp, by omega, by simp [putCells]; omega, fun i y hi j v hj => ?_⟩
 have hil : i < ys.length := (List.getElem?_eq_some_iff.1 hi).1
 have hj0 : j = 0 ∧ v = enc y := by
   cases j with
   | zero => simp at hj; exact ⟨rfl, hj.symm⟩
   | succ j => simp at hj
 obtain ⟨rfl, rfl⟩ := hj0
 have hpos : off + i < cells.size := by omega
 simp only [putCells, Array.getElem?_mapIdx, Nat.mul_one, Nat.add_zero]
 rw [Array.getElem?_eq_getElem hpos]
 simp only [Option.map_some, List.size_toArray]
 rw [if_pos ⟨by omega, by omega⟩, Nat.add_sub_cancel_left]
 have e1 : ys.toArray[i]! = y := by
   rw [getElem!_pos _ _ (by simpa using hil)]
   simpa [hil] using hi
 rw [e1]
theorem sl_map {α β : Type} {E sz : Nat} {enc : α → List Value} {enc' : β → List Value} {a : Option Addr} {c : Nat} {xs : List α} (f : α → β) (hf : ∀ x, enc x = enc' (f x)) : ∀ h, sl E sz enc a c xs h → sl E sz enc' a c (xs.map f) h := fun h x => by
 rcases x with ⟨rfl, rfl, rfl⟩ | ⟨b, off, cells, rfl, hp, h1, h2, h3⟩
 · exact .inl ⟨rfl, rfl, rfl⟩
 · refine .inr ⟨b, off, cells, rfl, hp, by simpa using h1, h2, fun i y hi j v hj => ?_⟩
   rw [List.getElem?_map] at hi
   obtain ⟨x, hx, rfl⟩ := Option.map_eq_some_iff.1 hi
   exact h3 i x hx j v (by rw [hf]; exact hj)
end
end Go.Sl
namespace Go.Ix
open Go Go.Sl Go.Gv Go.Kv Go.Po
end Go.Ix
namespace Go.Proofs
open Go.Shelf
namespace YtflfhpokmidnmaaGreatDoor
open Go Go.Sl Go.Gv Go.Kv Go.Bst Go.Sort Go.Po Go.Ix
set_option maxRecDepth 100000
instance : Inhabited Key := ⟨⟨0, 0⟩⟩
instance : Inhabited PostV := ⟨⟨⟨0, 0⟩, ⟨none, [], 0⟩⟩⟩
theorem sortS_spec (a : Option Addr) (c : Nat) (xs : List ByteArray) (hl : xs.length ≤ 1000000) : Ct Tryz.prog 113 [.slice a xs.length c] [sl 9 1 strC a c xs]
   (fun v hs => v = .tuple #[] ∧ hs = [sl 9 1 strC a c (sortB xs)]) := by
 refine ⟨enters_of Tryz.func113 (by kernel_rfl) rfl _, fun w0 w R s => ?_⟩
 by_cases he : xs = []
 · subst he
   refine (Any.slices_Sort_string_none Tryz.laysSortS a c w).mono ?_
   rintro e w' ⟨rfl, rfl⟩
   exact ⟨_, _, rfl, ⟨rfl, rfl⟩, by rw [show sortB [] = [] by simp [sortB]]; exact s⟩
 · obtain ⟨b, off, ha, -⟩ := (SlH.own .hd : SlH w0 ([sl 9 1 strC a c xs] ++ R) 1 strC a xs) w s he
   subst ha
   have s1 : Sat w0 w (sl 9 1 (fun x : List UInt8 => [encStr x]) (some ⟨b, off, none⟩) c (xs.map fun s => s.data.toList) :: R) := Sat.ent s (sl_map (fun s : ByteArray => s.data.toList) fun x => by show [Value.string x] = [Value.string ⟨x.data.toList.toArray⟩]; rw [of_list])
   obtain ⟨hH, hb⟩ := sl1_holds s1
   have hS := Any.slices_Sort_string Tryz.laysSortS b off c (xs.map fun s => s.data.toList) w hH hb (by simp; omega)
   rw [List.length_map] at hS
   refine hS.mono ?_
   rintro e w' ⟨rfl, n, os, rfl⟩
   refine ⟨_, _, rfl, ⟨rfl, rfl⟩, ?_⟩
   have s2 := sl1_sorted (n := n) (os := os) (ys := (xs.map fun s => s.data.toList).mergeSort fun x y => decide (x ≤ y)) (by rw [List.length_mergeSort]) s1
   exact s2.ent (sl_map (fun l : List UInt8 => (⟨l.toArray⟩ : ByteArray)) fun x => rfl)
theorem sortedT_spec (b m : Nat) (es : List (ByteArray × SlV Int)) (hl : es.length ≤ 100000) :
   Ct Tryz.prog 72 [.func (.func 168) #[] #[.pointer (some ⟨b, 0, none⟩)]]
     [cl b 210 [.map (some m)], mp strV slV m es] (fun v hs => ∃ a c, v = .slice a (sortB (mkeys es)).length c ∧ hs = [sl 9 1 strC a c (sortB (mkeys es)), mp strV slV m es]) := by
 refine Cti Tryz.func72 (by kernel_rfl) 9 Tryz.ntmps72 rfl rfl fun w0 R => ?_
 refine Gsr (Las rfl rfl (Lnt (Gsr (Lmv rfl rfl (La rfl (asC (t_collect_spec b m es hl)) ?_)))))
 rintro _ _ ⟨_, ⟨xs, a, c, hp, rfl, rfl⟩, rfl⟩
 refine Las rfl rfl (Lnil ?_)
 have hxl : xs.length ≤ 100000 := by rw [hp.length_eq]; simp [mkeys]; exact hl
 have hss : sortB xs = sortB (mkeys es) := sortB_of_perm hp
 refine Gn (Gsr (Lmv rfl rfl (La rfl (asC (sortS_spec a c xs (by omega))) ?_)))
 rintro _ _ ⟨_, ⟨rfl, rfl⟩, rfl⟩
 refine Lnil ?_
 rw [hss]
 refine Gn (Gsr (Lmv rfl rfl (Las rfl rfl (Lnt (Gs.ret ?_)))))
 exact Gs.fin1 Tryz.results72 rfl _ (⟨a, c, by rw [← hss, sortB_length], rfl⟩) (by repeat constructor)
end YtflfhpokmidnmaaGreatDoor
end Go.Proofs
namespace Go.Proofs
open Go.Shelf
set_option maxRecDepth 100000
def Tryz.laysWR_ren : Go.Shelf.Ren := ⟨fun | 168 => 207 | 240 => 202 | 242 => 237 | 276 => 228 | 278 => 248 | n => n, fun | 0 => 0 | 3 => 3 | 4 => 4 | 5 => 5 | 9 => 9 | 20 => 20 | 21 => 21 | 37 => 83 | 46 => 65 | 51 => 268 | 70 => 247 | 72 => 249 | 75 => 140 | 80 => 147 | 164 => 314 | n => n, fun  | n => n⟩
theorem Tryz.laysWR : Go.Proofs.Lays.n168 Tryz.prog Tryz.laysWR_ren := {
 mixed := by kernel_rfl
 f168 := Tryz.func207.trans (congrArg some (by kernel_rfl))
 f240 := Tryz.func202.trans (congrArg some (by kernel_rfl))
 f242 := Tryz.func237.trans (congrArg some (by kernel_rfl))
 f276 := Tryz.func228.trans (congrArg some (by kernel_rfl))
 f278 := Tryz.func248.trans (congrArg some (by kernel_rfl))
 t0 := Tryz.underlying0
 a0 := Tryz.isAgg0
 z0 := Tryz.sizeOf0
 v0 := Tryz.zeroValue0
 t3 := Tryz.underlying3
 a3 := Tryz.isAgg3
 z3 := Tryz.sizeOf3
 v3 := Tryz.zeroValue3
 t4 := Tryz.underlying4
 a4 := Tryz.isAgg4
 z4 := Tryz.sizeOf4
 v4 := Tryz.zeroValue4
 t5 := Tryz.underlying5
 a5 := Tryz.isAgg5
 z5 := Tryz.sizeOf5
 v5 := Tryz.zeroValue5
 t9 := Tryz.underlying9
 a9 := Tryz.isAgg9
 z9 := Tryz.sizeOf9
 v9 := Tryz.zeroValue9
 t20 := Tryz.underlying20
 a20 := Tryz.isAgg20
 z20 := Tryz.sizeOf20
 v20 := Tryz.zeroValue20
 t21 := Tryz.underlying21
 a21 := Tryz.isAgg21
 z21 := Tryz.sizeOf21
 v21 := Tryz.zeroValue21
 t37 := Tryz.underlying83
 a37 := Tryz.isAgg83
 z37 := Tryz.sizeOf83
 v37 := Tryz.zeroValue83
 t46 := Tryz.underlying65
 a46 := Tryz.isAgg65
 z46 := Tryz.sizeOf65
 v46 := Tryz.zeroValue65
 t51 := Tryz.underlying268
 a51 := Tryz.isAgg268
 z51 := Tryz.sizeOf268
 v51 := Tryz.zeroValue268
 t70 := Tryz.underlying247
 a70 := Tryz.isAgg247
 z70 := Tryz.sizeOf247
 v70 := Tryz.zeroValue247
 t72 := Tryz.underlying249
 a72 := Tryz.isAgg249
 z72 := Tryz.sizeOf249
 v72 := Tryz.zeroValue249
 t75 := Tryz.underlying140
 a75 := Tryz.isAgg140
 z75 := Tryz.sizeOf140
 v75 := Tryz.zeroValue140
 t164 := Tryz.underlying314
 a164 := Tryz.isAgg314
 z164 := Tryz.sizeOf314
 v164 := Tryz.zeroValue314
}
end Go.Proofs
