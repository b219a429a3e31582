/-
  Contracts of Go's library, laid at the program by the shelf's own tools. No condition.
-/
import Derived.Shelf.Strings.Builder1
import Derived.Shelf.Strings.Builder2
import Derived.Shelf.Strings.BuilderF
import Derived.Shelf.Strings.Prefix
import Derived.Shelf.Bits.Mul64
import Derived.Shelf.Strings.Repeat
import Derived.Shelf.Slices.SearchI
import Derived.Test.YtdpjbeeokimnaaaProg
namespace Go.Proofs
open Go.Shelf
def Try.lays105_ren : Go.Shelf.Ren := ⟨fun | 105 => 126 | 212 => 152 | 99 => 153 | 165 => 154 | 166 => 155 | 170 => 156 | 169 => 157 | 263 => 170 | 264 => 171 | 206 => 172 | 240 => 173 | 241 => 174 | 276 => 183 | 277 => 184 | n => n, fun | 9 => 9 | 3 => 3 | 4 => 4 | 20 => 20 | 0 => 0 | 46 => 165 | 109 => 175 | 5 => 5 | 72 => 180 | 76 => 184 | 51 => 149 | 146 => 193 | 53 => 195 | 148 => 196 | 70 => 178 | 37 => 22 | 75 => 183 | 127 => 198 | 164 => 204 | 80 => 80 | n => n, fun | n => n⟩
theorem Try.lays105 : Go.Proofs.Lays.n105 Try.prog Try.lays105_ren := {
  mixed := by kernel_rfl
  f99 := Try.func153.trans (congrArg some (by kernel_rfl))
  f105 := Try.func126.trans (congrArg some (by kernel_rfl))
  f165 := Try.func154.trans (congrArg some (by kernel_rfl))
  f166 := Try.func155.trans (congrArg some (by kernel_rfl))
  f169 := Try.func157.trans (congrArg some (by kernel_rfl))
  f170 := Try.func156.trans (congrArg some (by kernel_rfl))
  f206 := Try.func172.trans (congrArg some (by kernel_rfl))
  f212 := Try.func152.trans (congrArg some (by kernel_rfl))
  f240 := Try.func173.trans (congrArg some (by kernel_rfl))
  f241 := Try.func174.trans (congrArg some (by kernel_rfl))
  f263 := Try.func170.trans (congrArg some (by kernel_rfl))
  f264 := Try.func171.trans (congrArg some (by kernel_rfl))
  f276 := Try.func183.trans (congrArg some (by kernel_rfl))
  f277 := Try.func184.trans (congrArg some (by kernel_rfl))
  t0 := Try.underlying0
  a0 := Try.isAgg0
  z0 := Try.sizeOf0
  v0 := Try.zeroValue0
  t3 := Try.underlying3
  a3 := Try.isAgg3
  z3 := Try.sizeOf3
  v3 := Try.zeroValue3
  t4 := Try.underlying4
  a4 := Try.isAgg4
  z4 := Try.sizeOf4
  v4 := Try.zeroValue4
  t5 := Try.underlying5
  a5 := Try.isAgg5
  z5 := Try.sizeOf5
  v5 := Try.zeroValue5
  t9 := Try.underlying9
  a9 := Try.isAgg9
  z9 := Try.sizeOf9
  v9 := Try.zeroValue9
  t20 := Try.underlying20
  a20 := Try.isAgg20
  z20 := Try.sizeOf20
  v20 := Try.zeroValue20
  t37 := Try.underlying22
  a37 := Try.isAgg22
  z37 := Try.sizeOf22
  v37 := Try.zeroValue22
  t46 := Try.underlying165
  a46 := Try.isAgg165
  z46 := Try.sizeOf165
  v46 := Try.zeroValue165
  t51 := Try.underlying149
  a51 := Try.isAgg149
  z51 := Try.sizeOf149
  v51 := Try.zeroValue149
  t53 := Try.underlying195
  a53 := Try.isAgg195
  z53 := Try.sizeOf195
  v53 := Try.zeroValue195
  t70 := Try.underlying178
  a70 := Try.isAgg178
  z70 := Try.sizeOf178
  v70 := Try.zeroValue178
  t72 := Try.underlying180
  a72 := Try.isAgg180
  z72 := Try.sizeOf180
  v72 := Try.zeroValue180
  t75 := Try.underlying183
  a75 := Try.isAgg183
  z75 := Try.sizeOf183
  v75 := Try.zeroValue183
  t76 := Try.underlying184
  a76 := Try.isAgg184
  z76 := Try.sizeOf184
  v76 := Try.zeroValue184
  t109 := Try.underlying175
  a109 := Try.isAgg175
  z109 := Try.sizeOf175
  v109 := Try.zeroValue175
  t127 := Try.underlying198
  a127 := Try.isAgg198
  z127 := Try.sizeOf198
  v127 := Try.zeroValue198
  t146 := Try.underlying193
  a146 := Try.isAgg193
  z146 := Try.sizeOf193
  v146 := Try.zeroValue193
  t148 := Try.underlying196
  a148 := Try.isAgg196
  z148 := Try.sizeOf196
  v148 := Try.zeroValue196
  t164 := Try.underlying204
  a164 := Try.isAgg204
  z164 := Try.sizeOf204
  v164 := Try.zeroValue204 }
theorem Try.Builder_Extra_105 : Builder.Extra Try.prog Try.lays105_ren := {
  sizeBuilder := by kernel_rfl
  liesBuilder := by kernel_rfl
  t5 := Try.underlying5
  a5 := Try.isAgg5
  z5 := Try.sizeOf5
  v5 := Try.zeroValue5
  infoByte := by kernel_rfl
  cellsByte := by kernel_rfl
  sizeByte := by kernel_rfl
  neB5 := by decide }
open Go.RowKit Go.Lib in
/-- **strings.Repeat: count ≥ 0, the result within one allocation: count copies of s.** (LAID: no walk: one application.) -/
theorem Try.strings_Repeat (s : ByteArray) (c : Nat) (w : World) (hc : c ≤ 9223372036854775807) (hlen : s.size * c ≤ 140737488355328) :
    Calls Try.prog 126 #[.string s, .int .i64 c] w fun e w' => e = .returned (.string ⟨(Lib.repeatL s.data.toList c).toArray⟩) ∧ Below w.heap.size w w' := Any.strings_Repeat Try.lays105 Try.Builder_Extra_105 s c w hc hlen
end Go.Proofs
