/-
  Contracts of Go's library, laid at the program by the shelf's own tools. No condition.
-/
import Derived.Shelf.Strings.Builder1
import Derived.Shelf.Strings.Builder2
import Derived.Shelf.Strings.BuilderF
import Derived.Shelf.Strings.BuilderK
import Derived.Shelf.Strings.Builder2Cap
import Derived.Shelf.Strings.Prefix
import Derived.Shelf.Bits.Mul64
import Derived.Shelf.Strings.Repeat
import Derived.Shelf.Strings.BuilderCap
import Derived.Test.YtooijdhcaghdlaaProg
namespace Go.Proofs
open Go.Shelf
def Try.lays105_ren : Go.Shelf.Ren := ⟨fun | 105 => 86 | 212 => 100 | 99 => 101 | 165 => 102 | 166 => 103 | 170 => 104 | 169 => 105 | 263 => 110 | 264 => 111 | 206 => 112 | 240 => 113 | 241 => 114 | 276 => 116 | 277 => 117 | n => n, fun | 9 => 9 | 3 => 3 | 4 => 4 | 20 => 20 | 0 => 0 | 46 => 104 | 109 => 124 | 5 => 5 | 72 => 129 | 76 => 133 | 51 => 102 | 146 => 140 | 53 => 142 | 148 => 143 | 70 => 127 | 37 => 87 | 75 => 132 | 127 => 145 | 164 => 146 | 80 => 136 | n => n, fun | n => n⟩
theorem Try.lays105 : Go.Proofs.Lays.n105 Try.prog Try.lays105_ren := {
 mixed := by kernel_rfl
 f99 := Try.func101.trans (congrArg some (by kernel_rfl))
 f105 := Try.func86.trans (congrArg some (by kernel_rfl))
 f165 := Try.func102.trans (congrArg some (by kernel_rfl))
 f166 := Try.func103.trans (congrArg some (by kernel_rfl))
 f169 := Try.func105.trans (congrArg some (by kernel_rfl))
 f170 := Try.func104.trans (congrArg some (by kernel_rfl))
 f206 := Try.func112.trans (congrArg some (by kernel_rfl))
 f212 := Try.func100.trans (congrArg some (by kernel_rfl))
 f240 := Try.func113.trans (congrArg some (by kernel_rfl))
 f241 := Try.func114.trans (congrArg some (by kernel_rfl))
 f263 := Try.func110.trans (congrArg some (by kernel_rfl))
 f264 := Try.func111.trans (congrArg some (by kernel_rfl))
 f276 := Try.func116.trans (congrArg some (by kernel_rfl))
 f277 := Try.func117.trans (congrArg some (by kernel_rfl))
 t0 := Try.underlying0
 a0 := Try.isAgg0
 z0 := Try.sizeOf0
 v0 := Try.zeroValue0
 t3 := Try.underlying3
 a3 := Try.isAgg3
 z3 := Try.sizeOf3
 v3 := Try.zeroValue3
 t4 := Try.underlying4
 a4 := Try.isAgg4
 z4 := Try.sizeOf4
 v4 := Try.zeroValue4
 t5 := Try.underlying5
 a5 := Try.isAgg5
 z5 := Try.sizeOf5
 v5 := Try.zeroValue5
 t9 := Try.underlying9
 a9 := Try.isAgg9
 z9 := Try.sizeOf9
 v9 := Try.zeroValue9
 t20 := Try.underlying20
 a20 := Try.isAgg20
 z20 := Try.sizeOf20
 v20 := Try.zeroValue20
 t37 := Try.underlying87
 a37 := Try.isAgg87
 z37 := Try.sizeOf87
 v37 := Try.zeroValue87
 t46 := Try.underlying104
 a46 := Try.isAgg104
 z46 := Try.sizeOf104
 v46 := Try.zeroValue104
 t51 := Try.underlying102
 a51 := Try.isAgg102
 z51 := Try.sizeOf102
 v51 := Try.zeroValue102
 t53 := Try.underlying142
 a53 := Try.isAgg142
 z53 := Try.sizeOf142
 v53 := Try.zeroValue142
 t70 := Try.underlying127
 a70 := Try.isAgg127
 z70 := Try.sizeOf127
 v70 := Try.zeroValue127
 t72 := Try.underlying129
 a72 := Try.isAgg129
 z72 := Try.sizeOf129
 v72 := Try.zeroValue129
 t75 := Try.underlying132
 a75 := Try.isAgg132
 z75 := Try.sizeOf132
 v75 := Try.zeroValue132
 t76 := Try.underlying133
 a76 := Try.isAgg133
 z76 := Try.sizeOf133
 v76 := Try.zeroValue133
 t109 := Try.underlying124
 a109 := Try.isAgg124
 z109 := Try.sizeOf124
 v109 := Try.zeroValue124
 t127 := Try.underlying145
 a127 := Try.isAgg145
 z127 := Try.sizeOf145
 v127 := Try.zeroValue145
 t146 := Try.underlying140
 a146 := Try.isAgg140
 z146 := Try.sizeOf140
 v146 := Try.zeroValue140
 t148 := Try.underlying143
 a148 := Try.isAgg143
 z148 := Try.sizeOf143
 v148 := Try.zeroValue143
 t164 := Try.underlying146
 a164 := Try.isAgg146
 z164 := Try.sizeOf146
 v164 := Try.zeroValue146 }
theorem Try.Builder_Extra_105 : Builder.Extra Try.prog Try.lays105_ren := {
 sizeBuilder := by kernel_rfl
 liesBuilder := by kernel_rfl
 t5 := Try.underlying5
 a5 := Try.isAgg5
 z5 := Try.sizeOf5
 v5 := Try.zeroValue5
 infoByte := by kernel_rfl
 cellsByte := by kernel_rfl
 sizeByte := by kernel_rfl
 neB5 := by decide }
open Go.RowKit Go.Lib in
theorem Try.strings_Repeat (s : ByteArray) (c : Nat) (w : World) (hc : c ≤ 9223372036854775807) (hlen : s.size * c ≤ 140737488355328) :
  Calls Try.prog 86 #[.string s, .int .i64 c] w fun e w' => e = .returned (.string ⟨(Lib.repeatL s.data.toList c).toArray⟩) ∧ Below w.heap.size w w' := Any.strings_Repeat Try.lays105 Try.Builder_Extra_105 s c w hc hlen
end Go.Proofs
