/-
  Contracts of Go's library, laid at the program by the shelf's own tools. No condition.
-/
import Derived.Shelf.Strings.Builder1
import Derived.Shelf.Strings.Builder2
import Derived.Shelf.Strings.Trim
import Derived.Shelf.Small.Utf8
import Derived.Shelf.Small.Strs
import Derived.Shelf.Strings.BuilderF
import Derived.Shelf.Utf8.RuneCount
import Derived.Shelf.Strconv.Atoi
import Derived.Shelf.Strconv.Itoa0
import Derived.Shelf.Strconv.Itoa1
import Derived.Shelf.LaysM
import Derived.Shelf.Strconv.Itoa2
import Derived.Shelf.Strconv.Itoa3
import Derived.Shelf.Strconv.AtoiErrFast
import Derived.Shelf.Strconv.ParseIntEmpty
import Derived.Shelf.Strconv.AtoiFail
import Derived.Shelf.Strconv.Clone
import Derived.Shelf.Strconv.SyntaxError
import Derived.Shelf.LaysC
import Derived.Shelf.Strconv.ToError
import Derived.Shelf.Strconv.Lower
import Derived.Shelf.Strconv.ParseUint10
import Derived.Shelf.Strconv.ParseUint10Empty
import Derived.Shelf.Strconv.ParseUint10Any
import Derived.Shelf.Strconv.ParseInt10
import Derived.Shelf.Strconv.AtoiLong
import Derived.Shelf.Strconv.AtoiInnerAll
import Derived.Shelf.Strconv.RangeError
import Derived.Shelf.Strconv.ToErrorRange
import Derived.Shelf.Strconv.AtoiAll
import Derived.Shelf.Strings.Search1
import Derived.Shelf.Strings.Search2
import Derived.Shelf.Strings.Search3
import Derived.Shelf.Strings.Cut
import Derived.Shelf.Strings.Count
import Derived.Shelf.Strings.Shaped
import Derived.Shelf.Strings.Prefix
import Derived.Shelf.Strings.Split
import Derived.Shelf.Strings.SplitShaped
import Derived.Shelf.Unicode.Decode
import Derived.Shelf.Strings.Runes
import Derived.Shelf.Strings.RuneCount
import Derived.Shelf.Strings.AsciiSet
import Derived.Shelf.Strings.Explode
import Derived.Shelf.Bits.Mul64
import Derived.Shelf.Strings.Repeat
import Derived.Shelf.Unicode.DecodeSlow
import Derived.Shelf.Unicode.DecodeAny
import Derived.Shelf.Unicode.DecodeLast
import Derived.Shelf.Slices.SearchI
import Derived.Ground.SlgnProg
import Derived.Shelf.SlicesE.Clone
import Derived.Test.YtdhifkdijlghdaaGreatDoorProg
import Derived.Shelf.Strconv.Itoa3
import Derived.Shelf.Strings.Split
import Derived.Shelf.Strconv.AtoiAll
import Derived.StillTailTactics
import Derived.Lib.AppendIntMem
import Derived.Shelf.Strings.SlTrimAscii
namespace Go.Proofs
open Go.Shelf
def Tryz.lays160_ren : Go.Shelf.Ren := ⟨fun | 160 => 189 | 232 => 254 | 231 => 253 | 227 => 255 | 234 => 257 | 233 => 256 | 236 => 259 | 235 => 258 | 228 => 313 | 271 => 315 | 151 => 314 | 197 => 304 | 120 => 360 | 152 => 359 | 260 => 352 | 137 => 190 | 119 => 376 | 224 => 354 | 225 => 353 | 217 => 260 | 266 => 316 | n => n, fun | 9 => 9 | 4 => 4 | 3 => 3 | 5 => 5 | 117 => 268 | 116 => 267 | 0 => 0 | 124 => 271 | 21 => 21 | 105 => 304 | 46 => 215 | 119 => 358 | 139 => 361 | 138 => 360 | n => n, fun | 3 => 4 | 4 => 5 | n => n⟩
theorem Tryz.lays160 : Go.Proofs.Lays.n160 Tryz.prog Tryz.lays160_ren := {
 mixed := by kernel_rfl
 f119 := Tryz.func376.trans (congrArg some (by kernel_rfl))
 f120 := Tryz.func360.trans (congrArg some (by kernel_rfl))
 f137 := Tryz.func190.trans (congrArg some (by kernel_rfl))
 f151 := Tryz.func314.trans (congrArg some (by kernel_rfl))
 f152 := Tryz.func359.trans (congrArg some (by kernel_rfl))
 f160 := Tryz.func189.trans (congrArg some (by kernel_rfl))
 f197 := Tryz.func304.trans (congrArg some (by kernel_rfl))
 f217 := Tryz.func260.trans (congrArg some (by kernel_rfl))
 f224 := Tryz.func354.trans (congrArg some (by kernel_rfl))
 f225 := Tryz.func353.trans (congrArg some (by kernel_rfl))
 f227 := Tryz.func255.trans (congrArg some (by kernel_rfl))
 f228 := Tryz.func313.trans (congrArg some (by kernel_rfl))
 f231 := Tryz.func253.trans (congrArg some (by kernel_rfl))
 f232 := Tryz.func254.trans (congrArg some (by kernel_rfl))
 f233 := Tryz.func256.trans (congrArg some (by kernel_rfl))
 f234 := Tryz.func257.trans (congrArg some (by kernel_rfl))
 f235 := Tryz.func258.trans (congrArg some (by kernel_rfl))
 f236 := Tryz.func259.trans (congrArg some (by kernel_rfl))
 f260 := Tryz.func352.trans (congrArg some (by kernel_rfl))
 f266 := Tryz.func316.trans (congrArg some (by kernel_rfl))
 f271 := Tryz.func315.trans (congrArg some (by kernel_rfl))
 t0 := Tryz.underlying0
 a0 := Tryz.isAgg0
 z0 := Tryz.sizeOf0
 v0 := Tryz.zeroValue0
 t3 := Tryz.underlying3
 a3 := Tryz.isAgg3
 z3 := Tryz.sizeOf3
 v3 := Tryz.zeroValue3
 t4 := Tryz.underlying4
 a4 := Tryz.isAgg4
 z4 := Tryz.sizeOf4
 v4 := Tryz.zeroValue4
 t5 := Tryz.underlying5
 a5 := Tryz.isAgg5
 z5 := Tryz.sizeOf5
 v5 := Tryz.zeroValue5
 t9 := Tryz.underlying9
 a9 := Tryz.isAgg9
 z9 := Tryz.sizeOf9
 v9 := Tryz.zeroValue9
 t21 := Tryz.underlying21
 a21 := Tryz.isAgg21
 z21 := Tryz.sizeOf21
 v21 := Tryz.zeroValue21
 t46 := Tryz.underlying215
 a46 := Tryz.isAgg215
 z46 := Tryz.sizeOf215
 v46 := Tryz.zeroValue215
 t105 := Tryz.underlying304
 a105 := Tryz.isAgg304
 z105 := Tryz.sizeOf304
 v105 := Tryz.zeroValue304
 t116 := Tryz.underlying267
 a116 := Tryz.isAgg267
 z116 := Tryz.sizeOf267
 t117 := Tryz.underlying268
 a117 := Tryz.isAgg268
 z117 := Tryz.sizeOf268
 v117 := Tryz.zeroValue268
 t119 := Tryz.underlying358
 a119 := Tryz.isAgg358
 z119 := Tryz.sizeOf358
 t124 := Tryz.underlying271
 a124 := Tryz.isAgg271
 z124 := Tryz.sizeOf271
 v124 := Tryz.zeroValue271
 t138 := Tryz.underlying360
 a138 := Tryz.isAgg360
 z138 := Tryz.sizeOf360
 v138 := Tryz.zeroValue360
 t139 := Tryz.underlying361
 a139 := Tryz.isAgg361
 z139 := Tryz.sizeOf361
 v139 := Tryz.zeroValue361
 g3 := by kernel_rfl
 g4 := by kernel_rfl }
def Tryz.lays137_ren : Go.Shelf.Ren := ⟨fun | 137 => 190 | 217 => 260 | 266 => 316 | n => n, fun | 9 => 9 | 5 => 5 | 3 => 3 | n => n, fun | n => n⟩
theorem Tryz.lays137 : Go.Proofs.Lays.n137 Tryz.prog Tryz.lays137_ren := {
 mixed := by kernel_rfl
 f137 := Tryz.func190.trans (congrArg some (by kernel_rfl))
 f217 := Tryz.func260.trans (congrArg some (by kernel_rfl))
 f266 := Tryz.func316.trans (congrArg some (by kernel_rfl))
 t3 := Tryz.underlying3
 a3 := Tryz.isAgg3
 z3 := Tryz.sizeOf3
 v3 := Tryz.zeroValue3
 t5 := Tryz.underlying5
 a5 := Tryz.isAgg5
 z5 := Tryz.sizeOf5
 v5 := Tryz.zeroValue5
 t9 := Tryz.underlying9
 a9 := Tryz.isAgg9
 z9 := Tryz.sizeOf9
 v9 := Tryz.zeroValue9 }
open Go.RowKit in
theorem Tryz.strings_IndexByte (s : ByteArray) (c : Int) (w : World) :
  Calls Tryz.prog 190 #[.string s, .int .u8 c] w fun e w' => e = .returned (.int .i64 (Lib.indexByte s.data.toList c.toNat.toUInt8)) ∧ w' = w := Any.strings_IndexByte Tryz.lays137 s c w
def Tryz.laysM171_ren : Go.Shelf.Ren := ⟨fun | 171 => 162 | 243 => 238 | 246 => 301 | 283 => 348 | 284 => 349 | 285 => 350 | 286 => 351 | 129 => 369 | 317 => 368 | 318 => 370 | 319 => 371 | 320 => 372 | 337 => 381 | 338 => 382 | n => n, fun | 3 => 3 | 9 => 9 | 2 => 2 | 4 => 4 | 171 => 340 | 0 => 0 | 53 => 326 | 37 => 62 | 5 => 5 | 173 => 343 | 212 => 355 | 51 => 213 | 20 => 20 | 213 => 356 | 46 => 215 | 232 => 372 | 233 => 373 | n => n, fun | 17 => 3 | 18 => 6 | 19 => 7 | n => n⟩
theorem Tryz.laysM171 : Go.Proofs.LaysM.n171 Tryz.prog Tryz.laysM171_ren := {
 mixed := by kernel_rfl
 f129 := Tryz.func369.trans (congrArg some (by kernel_rfl))
 f171 := Tryz.func162.trans (congrArg some (by kernel_rfl))
 f243 := Tryz.func238.trans (congrArg some (by kernel_rfl))
 f246 := Tryz.func301.trans (congrArg some (by kernel_rfl))
 f283 := Tryz.func348.trans (congrArg some (by kernel_rfl))
 f284 := Tryz.func349.trans (congrArg some (by kernel_rfl))
 f285 := Tryz.func350.trans (congrArg some (by kernel_rfl))
 f286 := Tryz.func351.trans (congrArg some (by kernel_rfl))
 f317 := Tryz.func368.trans (congrArg some (by kernel_rfl))
 f318 := Tryz.func370.trans (congrArg some (by kernel_rfl))
 f319 := Tryz.func371.trans (congrArg some (by kernel_rfl))
 f320 := Tryz.func372.trans (congrArg some (by kernel_rfl))
 f337 := Tryz.func381.trans (congrArg some (by kernel_rfl))
 f338 := Tryz.func382.trans (congrArg some (by kernel_rfl))
 t0 := Tryz.underlying0
 a0 := Tryz.isAgg0
 z0 := Tryz.sizeOf0
 v0 := Tryz.zeroValue0
 t2 := Tryz.underlying2
 a2 := Tryz.isAgg2
 z2 := Tryz.sizeOf2
 v2 := Tryz.zeroValue2
 t3 := Tryz.underlying3
 a3 := Tryz.isAgg3
 z3 := Tryz.sizeOf3
 v3 := Tryz.zeroValue3
 t4 := Tryz.underlying4
 a4 := Tryz.isAgg4
 z4 := Tryz.sizeOf4
 v4 := Tryz.zeroValue4
 t5 := Tryz.underlying5
 a5 := Tryz.isAgg5
 z5 := Tryz.sizeOf5
 v5 := Tryz.zeroValue5
 t9 := Tryz.underlying9
 a9 := Tryz.isAgg9
 z9 := Tryz.sizeOf9
 v9 := Tryz.zeroValue9
 t20 := Tryz.underlying20
 a20 := Tryz.isAgg20
 z20 := Tryz.sizeOf20
 v20 := Tryz.zeroValue20
 t37 := Tryz.underlying62
 a37 := Tryz.isAgg62
 z37 := Tryz.sizeOf62
 v37 := Tryz.zeroValue62
 t46 := Tryz.underlying215
 a46 := Tryz.isAgg215
 z46 := Tryz.sizeOf215
 v46 := Tryz.zeroValue215
 t51 := Tryz.underlying213
 a51 := Tryz.isAgg213
 z51 := Tryz.sizeOf213
 v51 := Tryz.zeroValue213
 t53 := Tryz.underlying326
 a53 := Tryz.isAgg326
 z53 := Tryz.sizeOf326
 v53 := Tryz.zeroValue326
 t171 := Tryz.underlying340
 a171 := Tryz.isAgg340
 z171 := Tryz.sizeOf340
 v171 := Tryz.zeroValue340
 t173 := Tryz.underlying343
 a173 := Tryz.isAgg343
 z173 := Tryz.sizeOf343
 v173 := Tryz.zeroValue343
 t212 := Tryz.underlying355
 a212 := Tryz.isAgg355
 z212 := Tryz.sizeOf355
 v212 := Tryz.zeroValue355
 t213 := Tryz.underlying356
 a213 := Tryz.isAgg356
 z213 := Tryz.sizeOf356
 t232 := Tryz.underlying372
 a232 := Tryz.isAgg372
 z232 := Tryz.sizeOf372
 v232 := Tryz.zeroValue372
 t233 := Tryz.underlying373
 a233 := Tryz.isAgg373
 z233 := Tryz.sizeOf373
 v233 := Tryz.zeroValue373
 g17 := by kernel_rfl
 g18 := by kernel_rfl
 g19 := by kernel_rfl
 i0 := by kernel_rfl
 i2 := by kernel_rfl
 i3 := by kernel_rfl
 i4 := by kernel_rfl
 i5 := by kernel_rfl
 i9 := by kernel_rfl
 i20 := by kernel_rfl
 i37 := by kernel_rfl
 i46 := by kernel_rfl
 i51 := by kernel_rfl
 i53 := by kernel_rfl
 i171 := by kernel_rfl
 i173 := by kernel_rfl
 i212 := by kernel_rfl
 i232 := by kernel_rfl
 i233 := by kernel_rfl
 m17 := by kernel_rfl
 m18 := by kernel_rfl
 m19 := by kernel_rfl }
open Go.RowKit Go.Sort Go.Lib in
theorem Tryz.strconv_Itoa (n : Int) (h0 : -9223372036854775808 ≤ n) (h1 : n ≤ 9223372036854775807) (w : World) (htab : Lib.TabIs Tryz.prog w "internal/strconv.uint64pow10" .u64 Lib.pow10Tab) :
  Calls Tryz.prog 162 #[.int .i64 n] w fun e w' => e = .returned (.string ⟨(Lib.itoa n).toArray⟩) ∧ ∃ k os, w' = grow (w.drewN k) os := Any.strconv_Itoa Tryz.laysM171 n h0 h1 w htab
def Tryz.lays171_ren : Go.Shelf.Ren := ⟨fun | 171 => 162 | 243 => 238 | 246 => 301 | 283 => 348 | 284 => 349 | 285 => 350 | 286 => 351 | 129 => 369 | 317 => 368 | 318 => 370 | 319 => 371 | 320 => 372 | 337 => 381 | 338 => 382 | n => n, fun | 3 => 3 | 9 => 9 | 2 => 2 | 4 => 4 | 171 => 340 | 0 => 0 | 53 => 326 | 37 => 62 | 5 => 5 | 173 => 343 | 212 => 355 | 51 => 213 | 20 => 20 | 213 => 356 | 46 => 215 | 232 => 372 | 233 => 373 | n => n, fun | 17 => 3 | 18 => 6 | 19 => 7 | n => n⟩
theorem Tryz.lays171 : Go.Proofs.Lays.n171 Tryz.prog Tryz.lays171_ren := {
 mixed := by kernel_rfl
 f129 := Tryz.func369.trans (congrArg some (by kernel_rfl))
 f171 := Tryz.func162.trans (congrArg some (by kernel_rfl))
 f243 := Tryz.func238.trans (congrArg some (by kernel_rfl))
 f246 := Tryz.func301.trans (congrArg some (by kernel_rfl))
 f283 := Tryz.func348.trans (congrArg some (by kernel_rfl))
 f284 := Tryz.func349.trans (congrArg some (by kernel_rfl))
 f285 := Tryz.func350.trans (congrArg some (by kernel_rfl))
 f286 := Tryz.func351.trans (congrArg some (by kernel_rfl))
 f317 := Tryz.func368.trans (congrArg some (by kernel_rfl))
 f318 := Tryz.func370.trans (congrArg some (by kernel_rfl))
 f319 := Tryz.func371.trans (congrArg some (by kernel_rfl))
 f320 := Tryz.func372.trans (congrArg some (by kernel_rfl))
 f337 := Tryz.func381.trans (congrArg some (by kernel_rfl))
 f338 := Tryz.func382.trans (congrArg some (by kernel_rfl))
 t0 := Tryz.underlying0
 a0 := Tryz.isAgg0
 z0 := Tryz.sizeOf0
 v0 := Tryz.zeroValue0
 t2 := Tryz.underlying2
 a2 := Tryz.isAgg2
 z2 := Tryz.sizeOf2
 v2 := Tryz.zeroValue2
 t3 := Tryz.underlying3
 a3 := Tryz.isAgg3
 z3 := Tryz.sizeOf3
 v3 := Tryz.zeroValue3
 t4 := Tryz.underlying4
 a4 := Tryz.isAgg4
 z4 := Tryz.sizeOf4
 v4 := Tryz.zeroValue4
 t5 := Tryz.underlying5
 a5 := Tryz.isAgg5
 z5 := Tryz.sizeOf5
 v5 := Tryz.zeroValue5
 t9 := Tryz.underlying9
 a9 := Tryz.isAgg9
 z9 := Tryz.sizeOf9
 v9 := Tryz.zeroValue9
 t20 := Tryz.underlying20
 a20 := Tryz.isAgg20
 z20 := Tryz.sizeOf20
 v20 := Tryz.zeroValue20
 t37 := Tryz.underlying62
 a37 := Tryz.isAgg62
 z37 := Tryz.sizeOf62
 v37 := Tryz.zeroValue62
 t46 := Tryz.underlying215
 a46 := Tryz.isAgg215
 z46 := Tryz.sizeOf215
 v46 := Tryz.zeroValue215
 t51 := Tryz.underlying213
 a51 := Tryz.isAgg213
 z51 := Tryz.sizeOf213
 v51 := Tryz.zeroValue213
 t53 := Tryz.underlying326
 a53 := Tryz.isAgg326
 z53 := Tryz.sizeOf326
 v53 := Tryz.zeroValue326
 t171 := Tryz.underlying340
 a171 := Tryz.isAgg340
 z171 := Tryz.sizeOf340
 v171 := Tryz.zeroValue340
 t173 := Tryz.underlying343
 a173 := Tryz.isAgg343
 z173 := Tryz.sizeOf343
 v173 := Tryz.zeroValue343
 t212 := Tryz.underlying355
 a212 := Tryz.isAgg355
 z212 := Tryz.sizeOf355
 v212 := Tryz.zeroValue355
 t213 := Tryz.underlying356
 a213 := Tryz.isAgg356
 z213 := Tryz.sizeOf356
 t232 := Tryz.underlying372
 a232 := Tryz.isAgg372
 z232 := Tryz.sizeOf372
 v232 := Tryz.zeroValue372
 t233 := Tryz.underlying373
 a233 := Tryz.isAgg373
 z233 := Tryz.sizeOf373
 v233 := Tryz.zeroValue373
 g17 := by kernel_rfl
 g18 := by kernel_rfl
 g19 := by kernel_rfl }
def Tryz.laysC172_ren : Go.Shelf.Ren := ⟨fun | 172 => 187 | 244 => 250 | 245 => 251 | 247 => 307 | 279 => 308 | 280 => 309 | 281 => 310 | 282 => 311 | 287 => 356 | 316 => 357 | 171 => 162 | 205 => 358 | 321 => 374 | 322 => 375 | 243 => 238 | 246 => 301 | 283 => 348 | 284 => 349 | 285 => 350 | 286 => 351 | 129 => 369 | 317 => 368 | 318 => 370 | 319 => 371 | 320 => 372 | 337 => 381 | 338 => 382 | n => n, fun | 9 => 9 | 3 => 3 | 75 => 185 | 76 => 186 | 4 => 4 | 5 => 5 | 167 => 306 | 37 => 62 | 0 => 0 | 85 => 307 | 2 => 2 | 168 => 309 | 53 => 326 | 175 => 345 | 46 => 215 | 210 => 348 | 127 => 251 | 145 => 366 | 143 => 364 | 21 => 21 | 171 => 340 | 173 => 343 | 212 => 355 | 51 => 213 | 20 => 20 | 213 => 356 | 232 => 372 | 233 => 373 | 80 => 118 | n => n, fun | 15 => 1 | 16 => 2 | 17 => 3 | 18 => 6 | 19 => 7 | n => n⟩
theorem Tryz.laysC172 : Go.Proofs.LaysC.n172 Tryz.prog Tryz.laysC172_ren := {
 mixed := by kernel_rfl
 f129 := Tryz.func369.trans (congrArg some (by kernel_rfl))
 f171 := Tryz.func162.trans (congrArg some (by kernel_rfl))
 f172 := Tryz.func187.trans (congrArg some (by kernel_rfl))
 f205 := Tryz.func358.trans (congrArg some (by kernel_rfl))
 f243 := Tryz.func238.trans (congrArg some (by kernel_rfl))
 f244 := Tryz.func250.trans (congrArg some (by kernel_rfl))
 f245 := Tryz.func251.trans (congrArg some (by kernel_rfl))
 f246 := Tryz.func301.trans (congrArg some (by kernel_rfl))
 f247 := Tryz.func307.trans (congrArg some (by kernel_rfl))
 f279 := Tryz.func308.trans (congrArg some (by kernel_rfl))
 f280 := Tryz.func309.trans (congrArg some (by kernel_rfl))
 f281 := Tryz.func310.trans (congrArg some (by kernel_rfl))
 f282 := Tryz.func311.trans (congrArg some (by kernel_rfl))
 f283 := Tryz.func348.trans (congrArg some (by kernel_rfl))
 f284 := Tryz.func349.trans (congrArg some (by kernel_rfl))
 f285 := Tryz.func350.trans (congrArg some (by kernel_rfl))
 f286 := Tryz.func351.trans (congrArg some (by kernel_rfl))
 f287 := Tryz.func356.trans (congrArg some (by kernel_rfl))
 f316 := Tryz.func357.trans (congrArg some (by kernel_rfl))
 f317 := Tryz.func368.trans (congrArg some (by kernel_rfl))
 f318 := Tryz.func370.trans (congrArg some (by kernel_rfl))
 f319 := Tryz.func371.trans (congrArg some (by kernel_rfl))
 f320 := Tryz.func372.trans (congrArg some (by kernel_rfl))
 f321 := Tryz.func374.trans (congrArg some (by kernel_rfl))
 f322 := Tryz.func375.trans (congrArg some (by kernel_rfl))
 f337 := Tryz.func381.trans (congrArg some (by kernel_rfl))
 f338 := Tryz.func382.trans (congrArg some (by kernel_rfl))
 t0 := Tryz.underlying0
 a0 := Tryz.isAgg0
 z0 := Tryz.sizeOf0
 v0 := Tryz.zeroValue0
 t2 := Tryz.underlying2
 a2 := Tryz.isAgg2
 z2 := Tryz.sizeOf2
 v2 := Tryz.zeroValue2
 t3 := Tryz.underlying3
 a3 := Tryz.isAgg3
 z3 := Tryz.sizeOf3
 v3 := Tryz.zeroValue3
 t4 := Tryz.underlying4
 a4 := Tryz.isAgg4
 z4 := Tryz.sizeOf4
 v4 := Tryz.zeroValue4
 t5 := Tryz.underlying5
 a5 := Tryz.isAgg5
 z5 := Tryz.sizeOf5
 v5 := Tryz.zeroValue5
 t9 := Tryz.underlying9
 a9 := Tryz.isAgg9
 z9 := Tryz.sizeOf9
 v9 := Tryz.zeroValue9
 t20 := Tryz.underlying20
 a20 := Tryz.isAgg20
 z20 := Tryz.sizeOf20
 v20 := Tryz.zeroValue20
 t21 := Tryz.underlying21
 a21 := Tryz.isAgg21
 z21 := Tryz.sizeOf21
 v21 := Tryz.zeroValue21
 t37 := Tryz.underlying62
 a37 := Tryz.isAgg62
 z37 := Tryz.sizeOf62
 v37 := Tryz.zeroValue62
 t46 := Tryz.underlying215
 a46 := Tryz.isAgg215
 z46 := Tryz.sizeOf215
 v46 := Tryz.zeroValue215
 t51 := Tryz.underlying213
 a51 := Tryz.isAgg213
 z51 := Tryz.sizeOf213
 v51 := Tryz.zeroValue213
 t53 := Tryz.underlying326
 a53 := Tryz.isAgg326
 z53 := Tryz.sizeOf326
 v53 := Tryz.zeroValue326
 t75 := Tryz.underlying185
 a75 := Tryz.isAgg185
 z75 := Tryz.sizeOf185
 v75 := Tryz.zeroValue185
 t76 := Tryz.underlying186
 a76 := Tryz.isAgg186
 z76 := Tryz.sizeOf186
 v76 := Tryz.zeroValue186
 t85 := Tryz.underlying307
 a85 := Tryz.isAgg307
 z85 := Tryz.sizeOf307
 v85 := Tryz.zeroValue307
 t127 := Tryz.underlying251
 a127 := Tryz.isAgg251
 z127 := Tryz.sizeOf251
 v127 := Tryz.zeroValue251
 t143 := Tryz.underlying364
 a143 := Tryz.isAgg364
 z143 := Tryz.sizeOf364
 v143 := Tryz.zeroValue364
 t145 := Tryz.underlying366
 a145 := Tryz.isAgg366
 z145 := Tryz.sizeOf366
 v145 := Tryz.zeroValue366
 t167 := Tryz.underlying306
 a167 := Tryz.isAgg306
 z167 := Tryz.sizeOf306
 v167 := Tryz.zeroValue306
 t168 := Tryz.underlying309
 a168 := Tryz.isAgg309
 z168 := Tryz.sizeOf309
 v168 := Tryz.zeroValue309
 t171 := Tryz.underlying340
 a171 := Tryz.isAgg340
 z171 := Tryz.sizeOf340
 v171 := Tryz.zeroValue340
 t173 := Tryz.underlying343
 a173 := Tryz.isAgg343
 z173 := Tryz.sizeOf343
 v173 := Tryz.zeroValue343
 t175 := Tryz.underlying345
 a175 := Tryz.isAgg345
 z175 := Tryz.sizeOf345
 v175 := Tryz.zeroValue345
 t210 := Tryz.underlying348
 a210 := Tryz.isAgg348
 z210 := Tryz.sizeOf348
 v210 := Tryz.zeroValue348
 t212 := Tryz.underlying355
 a212 := Tryz.isAgg355
 z212 := Tryz.sizeOf355
 v212 := Tryz.zeroValue355
 t213 := Tryz.underlying356
 a213 := Tryz.isAgg356
 z213 := Tryz.sizeOf356
 t232 := Tryz.underlying372
 a232 := Tryz.isAgg372
 z232 := Tryz.sizeOf372
 v232 := Tryz.zeroValue372
 t233 := Tryz.underlying373
 a233 := Tryz.isAgg373
 z233 := Tryz.sizeOf373
 v233 := Tryz.zeroValue373
 g15 := by kernel_rfl
 g16 := by kernel_rfl
 g17 := by kernel_rfl
 g18 := by kernel_rfl
 g19 := by kernel_rfl
 t80 := Tryz.underlying118
 a80 := Tryz.isAgg118
 z80 := Tryz.sizeOf118
 v80 := Tryz.zeroValue118
 i0 := by kernel_rfl
 i2 := by kernel_rfl
 i3 := by kernel_rfl
 i4 := by kernel_rfl
 i5 := by kernel_rfl
 i9 := by kernel_rfl
 i20 := by kernel_rfl
 i21 := by kernel_rfl
 i37 := by kernel_rfl
 i46 := by kernel_rfl
 i51 := by kernel_rfl
 i53 := by kernel_rfl
 i75 := by kernel_rfl
 i76 := by kernel_rfl
 i80 := by kernel_rfl
 i85 := by kernel_rfl
 i127 := by kernel_rfl
 i143 := by kernel_rfl
 i145 := by kernel_rfl
 i167 := by kernel_rfl
 i168 := by kernel_rfl
 i171 := by kernel_rfl
 i173 := by kernel_rfl
 i175 := by kernel_rfl
 i210 := by kernel_rfl
 i212 := by kernel_rfl
 i232 := by kernel_rfl
 i233 := by kernel_rfl
 m15 := by kernel_rfl
 m16 := by kernel_rfl
 m17 := by kernel_rfl
 m18 := by kernel_rfl
 m19 := by kernel_rfl
 c0 := by kernel_rfl
 c2 := by kernel_rfl
 c3 := by kernel_rfl
 c4 := by kernel_rfl
 c5 := by kernel_rfl
 c9 := by kernel_rfl
 c20 := by kernel_rfl
 c21 := by kernel_rfl
 c37 := by kernel_rfl
 c46 := by kernel_rfl
 c51 := by kernel_rfl
 c53 := by kernel_rfl
 c75 := by kernel_rfl
 c76 := by kernel_rfl
 c80 := by kernel_rfl
 c85 := by kernel_rfl
 c127 := by kernel_rfl
 c143 := by kernel_rfl
 c145 := by kernel_rfl
 c167 := by kernel_rfl
 c168 := by kernel_rfl
 c171 := by kernel_rfl
 c173 := by kernel_rfl
 c175 := by kernel_rfl
 c210 := by kernel_rfl
 c212 := by kernel_rfl
 c213 := by kernel_rfl
 c232 := by kernel_rfl
 c233 := by kernel_rfl }
open Go.RowKit in
theorem Tryz.strconv_Atoi_ok (s : ByteArray) (hmax : s.size ≤ 9223372036854775806) (v : Int) (h : Lib.atoiAll s.data.toList = .ok v) (w : World) :
  Calls Tryz.prog 187 #[.string s] w fun e w' => e = .returned (.tuple #[.int .i64 v, .nilIface]) ∧ (w' = w ∨ ∃ t, w' = Lib.bytesWorld w 5 t) := Any.strconv_Atoi_ok Tryz.laysC172 s hmax v h w
open Go.RowKit in
theorem Tryz.strconv_Atoi_range (s : ByteArray) (hlim : s.size ≤ 281474976710656) (h : Lib.atoiAll s.data.toList = .range) (ev : Value) (w : World) (hv : w.cell? ⟨2, 0, none⟩ = some ev) (hev : ev = .nilIface ∨ ∃ te pe, ev = .iface te pe) :
  Calls Tryz.prog 187 #[.string s] w fun e w' => ∃ N, e = .returned (.tuple #[.int .i64 (Lib.atoiSat s.data.toList), .iface 309 (.pointer (some ⟨N, 0, none⟩))]) ∧ w.heap.size ≤ N ∧ w'.heap[N]? = some (.cells #[.string ⟨#[65, 116, 111, 105]⟩, .string s, ev] 348 (0, 0)) ∧ Below w.heap.size w w' := Any.strconv_Atoi_range Tryz.laysC172 s hlim h ev w hv hev
def Tryz.lays101_ren : Go.Shelf.Ren := ⟨fun | 101 => 188 | 208 => 252 | 206 => 312 | n => n, fun | 9 => 9 | 4 => 4 | 3 => 3 | n => n, fun | n => n⟩
theorem Tryz.lays101 : Go.Proofs.Lays.n101 Tryz.prog Tryz.lays101_ren := {
 mixed := by kernel_rfl
 f101 := Tryz.func188.trans (congrArg some (by kernel_rfl))
 f206 := Tryz.func312.trans (congrArg some (by kernel_rfl))
 f208 := Tryz.func252.trans (congrArg some (by kernel_rfl))
 t3 := Tryz.underlying3
 a3 := Tryz.isAgg3
 z3 := Tryz.sizeOf3
 v3 := Tryz.zeroValue3
 t4 := Tryz.underlying4
 a4 := Tryz.isAgg4
 z4 := Tryz.sizeOf4
 v4 := Tryz.zeroValue4
 t9 := Tryz.underlying9
 a9 := Tryz.isAgg9
 z9 := Tryz.sizeOf9
 v9 := Tryz.zeroValue9 }
open Go.RowKit Go.Lib in
theorem Tryz.strings_TrimPrefix (s p : ByteArray) (w : World) :
  Calls Tryz.prog 188 #[.string s, .string p] w fun e w' => e = .returned (.string ⟨(Lib.trimPrefix s.data.toList p.data.toList).toArray⟩) ∧ w' = w := Any.strings_TrimPrefix Tryz.lays101 s p w
def Tryz.lays146_ren : Go.Shelf.Ren := ⟨fun | 146 => 106 | 221 => 186 | 268 => 247 | 138 => 248 | 143 => 249 | 195 => 303 | 197 => 304 | 218 => 305 | 219 => 306 | 260 => 352 | 217 => 260 | 225 => 353 | 224 => 354 | 267 => 355 | 266 => 316 | 314 => 373 | n => n, fun | 9 => 9 | 31 => 29 | 3 => 3 | 4 => 4 | 0 => 0 | 105 => 304 | 21 => 21 | 5 => 5 | 46 => 215 | 119 => 358 | 139 => 361 | 138 => 360 | 146 => 324 | 51 => 213 | n => n, fun | 1 => 0 | 3 => 4 | 4 => 5 | n => n⟩
theorem Tryz.lays146 : Go.Proofs.Lays.n146 Tryz.prog Tryz.lays146_ren := {
 mixed := by kernel_rfl
 f138 := Tryz.func248.trans (congrArg some (by kernel_rfl))
 f143 := Tryz.func249.trans (congrArg some (by kernel_rfl))
 f146 := Tryz.func106.trans (congrArg some (by kernel_rfl))
 f195 := Tryz.func303.trans (congrArg some (by kernel_rfl))
 f197 := Tryz.func304.trans (congrArg some (by kernel_rfl))
 f217 := Tryz.func260.trans (congrArg some (by kernel_rfl))
 f218 := Tryz.func305.trans (congrArg some (by kernel_rfl))
 f219 := Tryz.func306.trans (congrArg some (by kernel_rfl))
 f221 := Tryz.func186.trans (congrArg some (by kernel_rfl))
 f224 := Tryz.func354.trans (congrArg some (by kernel_rfl))
 f225 := Tryz.func353.trans (congrArg some (by kernel_rfl))
 f260 := Tryz.func352.trans (congrArg some (by kernel_rfl))
 f266 := Tryz.func316.trans (congrArg some (by kernel_rfl))
 f267 := Tryz.func355.trans (congrArg some (by kernel_rfl))
 f268 := Tryz.func247.trans (congrArg some (by kernel_rfl))
 f314 := Tryz.func373.trans (congrArg some (by kernel_rfl))
 t0 := Tryz.underlying0
 a0 := Tryz.isAgg0
 z0 := Tryz.sizeOf0
 v0 := Tryz.zeroValue0
 t3 := Tryz.underlying3
 a3 := Tryz.isAgg3
 z3 := Tryz.sizeOf3
 v3 := Tryz.zeroValue3
 t4 := Tryz.underlying4
 a4 := Tryz.isAgg4
 z4 := Tryz.sizeOf4
 v4 := Tryz.zeroValue4
 t5 := Tryz.underlying5
 a5 := Tryz.isAgg5
 z5 := Tryz.sizeOf5
 v5 := Tryz.zeroValue5
 t9 := Tryz.underlying9
 a9 := Tryz.isAgg9
 z9 := Tryz.sizeOf9
 v9 := Tryz.zeroValue9
 t21 := Tryz.underlying21
 a21 := Tryz.isAgg21
 z21 := Tryz.sizeOf21
 v21 := Tryz.zeroValue21
 t31 := Tryz.underlying29
 a31 := Tryz.isAgg29
 z31 := Tryz.sizeOf29
 v31 := Tryz.zeroValue29
 t46 := Tryz.underlying215
 a46 := Tryz.isAgg215
 z46 := Tryz.sizeOf215
 v46 := Tryz.zeroValue215
 t51 := Tryz.underlying213
 a51 := Tryz.isAgg213
 z51 := Tryz.sizeOf213
 v51 := Tryz.zeroValue213
 t105 := Tryz.underlying304
 a105 := Tryz.isAgg304
 z105 := Tryz.sizeOf304
 v105 := Tryz.zeroValue304
 t119 := Tryz.underlying358
 a119 := Tryz.isAgg358
 z119 := Tryz.sizeOf358
 t138 := Tryz.underlying360
 a138 := Tryz.isAgg360
 z138 := Tryz.sizeOf360
 v138 := Tryz.zeroValue360
 t139 := Tryz.underlying361
 a139 := Tryz.isAgg361
 z139 := Tryz.sizeOf361
 v139 := Tryz.zeroValue361
 t146 := Tryz.underlying324
 a146 := Tryz.isAgg324
 z146 := Tryz.sizeOf324
 v146 := Tryz.zeroValue324
 g1 := by kernel_rfl
 g3 := by kernel_rfl
 g4 := by kernel_rfl }
open Go.RowKit Go.Lib in
theorem Tryz.strings_Split (s sep : ByteArray) (m : Int) (w : World) (hs : s.size < 4294967281) (hm : w.cell? ⟨0, 0, none⟩ = some (.int .i64 m)) (h1 : 1 ≤ sep.size) :
  Calls Tryz.prog 106 #[.string s, .string sep] w fun e w' =>
   e = .returned (.slice (some ⟨w.heap.size, 0, none⟩) (Lib.countB s sep + 1) (Lib.countB s sep + 1)) ∧ w' = w.alloc (.cells ((Lib.splitB sep 0 (Lib.countB s sep) s).map Value.string).toArray 9) := Any.strings_Split Tryz.lays146 (by kernel_rfl) s sep m w hs hm h1
def Tryz.lays105_ren : Go.Shelf.Ren := ⟨fun | 105 => 207 | 212 => 272 | 99 => 273 | 165 => 274 | 166 => 138 | 170 => 275 | 169 => 139 | 263 => 332 | 264 => 333 | 206 => 312 | 240 => 230 | 241 => 334 | 276 => 299 | 277 => 365 | n => n, fun | 9 => 9 | 3 => 3 | 4 => 4 | 20 => 20 | 0 => 0 | 46 => 215 | 109 => 279 | 5 => 5 | 72 => 183 | 76 => 186 | 51 => 213 | 146 => 324 | 53 => 326 | 148 => 327 | 70 => 181 | 37 => 62 | 75 => 185 | 127 => 251 | 164 => 298 | 80 => 118 | n => n, fun | n => n⟩
theorem Tryz.lays105 : Go.Proofs.Lays.n105 Tryz.prog Tryz.lays105_ren := {
 mixed := by kernel_rfl
 f99 := Tryz.func273.trans (congrArg some (by kernel_rfl))
 f105 := Tryz.func207.trans (congrArg some (by kernel_rfl))
 f165 := Tryz.func274.trans (congrArg some (by kernel_rfl))
 f166 := Tryz.func138.trans (congrArg some (by kernel_rfl))
 f169 := Tryz.func139.trans (congrArg some (by kernel_rfl))
 f170 := Tryz.func275.trans (congrArg some (by kernel_rfl))
 f206 := Tryz.func312.trans (congrArg some (by kernel_rfl))
 f212 := Tryz.func272.trans (congrArg some (by kernel_rfl))
 f240 := Tryz.func230.trans (congrArg some (by kernel_rfl))
 f241 := Tryz.func334.trans (congrArg some (by kernel_rfl))
 f263 := Tryz.func332.trans (congrArg some (by kernel_rfl))
 f264 := Tryz.func333.trans (congrArg some (by kernel_rfl))
 f276 := Tryz.func299.trans (congrArg some (by kernel_rfl))
 f277 := Tryz.func365.trans (congrArg some (by kernel_rfl))
 t0 := Tryz.underlying0
 a0 := Tryz.isAgg0
 z0 := Tryz.sizeOf0
 v0 := Tryz.zeroValue0
 t3 := Tryz.underlying3
 a3 := Tryz.isAgg3
 z3 := Tryz.sizeOf3
 v3 := Tryz.zeroValue3
 t4 := Tryz.underlying4
 a4 := Tryz.isAgg4
 z4 := Tryz.sizeOf4
 v4 := Tryz.zeroValue4
 t5 := Tryz.underlying5
 a5 := Tryz.isAgg5
 z5 := Tryz.sizeOf5
 v5 := Tryz.zeroValue5
 t9 := Tryz.underlying9
 a9 := Tryz.isAgg9
 z9 := Tryz.sizeOf9
 v9 := Tryz.zeroValue9
 t20 := Tryz.underlying20
 a20 := Tryz.isAgg20
 z20 := Tryz.sizeOf20
 v20 := Tryz.zeroValue20
 t37 := Tryz.underlying62
 a37 := Tryz.isAgg62
 z37 := Tryz.sizeOf62
 v37 := Tryz.zeroValue62
 t46 := Tryz.underlying215
 a46 := Tryz.isAgg215
 z46 := Tryz.sizeOf215
 v46 := Tryz.zeroValue215
 t51 := Tryz.underlying213
 a51 := Tryz.isAgg213
 z51 := Tryz.sizeOf213
 v51 := Tryz.zeroValue213
 t53 := Tryz.underlying326
 a53 := Tryz.isAgg326
 z53 := Tryz.sizeOf326
 v53 := Tryz.zeroValue326
 t70 := Tryz.underlying181
 a70 := Tryz.isAgg181
 z70 := Tryz.sizeOf181
 v70 := Tryz.zeroValue181
 t72 := Tryz.underlying183
 a72 := Tryz.isAgg183
 z72 := Tryz.sizeOf183
 v72 := Tryz.zeroValue183
 t75 := Tryz.underlying185
 a75 := Tryz.isAgg185
 z75 := Tryz.sizeOf185
 v75 := Tryz.zeroValue185
 t76 := Tryz.underlying186
 a76 := Tryz.isAgg186
 z76 := Tryz.sizeOf186
 v76 := Tryz.zeroValue186
 t109 := Tryz.underlying279
 a109 := Tryz.isAgg279
 z109 := Tryz.sizeOf279
 v109 := Tryz.zeroValue279
 t127 := Tryz.underlying251
 a127 := Tryz.isAgg251
 z127 := Tryz.sizeOf251
 v127 := Tryz.zeroValue251
 t146 := Tryz.underlying324
 a146 := Tryz.isAgg324
 z146 := Tryz.sizeOf324
 v146 := Tryz.zeroValue324
 t148 := Tryz.underlying327
 a148 := Tryz.isAgg327
 z148 := Tryz.sizeOf327
 v148 := Tryz.zeroValue327
 t164 := Tryz.underlying298
 a164 := Tryz.isAgg298
 z164 := Tryz.sizeOf298
 v164 := Tryz.zeroValue298 }
theorem Tryz.Builder_Extra_105 : Builder.Extra Tryz.prog Tryz.lays105_ren := {
 sizeBuilder := by kernel_rfl
 liesBuilder := by kernel_rfl
 t5 := Tryz.underlying5
 a5 := Tryz.isAgg5
 z5 := Tryz.sizeOf5
 v5 := Tryz.zeroValue5
 infoByte := by kernel_rfl
 cellsByte := by kernel_rfl
 sizeByte := by kernel_rfl
 neB5 := by decide }
open Go.RowKit Go.Lib in
theorem Tryz.strings_Repeat (s : ByteArray) (c : Nat) (w : World) (hc : c ≤ 9223372036854775807) (hlen : s.size * c ≤ 140737488355328) :
  Calls Tryz.prog 207 #[.string s, .int .i64 c] w fun e w' => e = .returned (.string ⟨(Lib.repeatL s.data.toList c).toArray⟩) ∧ Below w.heap.size w w' := Any.strings_Repeat Tryz.lays105 Tryz.Builder_Extra_105 s c w hc hlen
end Go.Proofs
