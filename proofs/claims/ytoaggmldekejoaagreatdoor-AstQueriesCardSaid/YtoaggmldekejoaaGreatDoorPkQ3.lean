/- The library's contracts at this dump, plain (lay-plain.mjs, pruned, by name). Conditions: as each says. -/
import Derived.Test.YtoaggmldekejoaaGreatDoorPkQ2
import Derived.Shelf.Strings.OnBuilder
import Derived.Shelf.Strings.CaseAny
import Derived.Shelf.Slices.Turned
import Derived.Shelf.Strconv.Itoa1
import Derived.Shelf.Strconv.Itoa2
import Derived.Shelf.Small.Strs
import Derived.Shelf.Pu.ErrVarParseUint
import Derived.Shelf.GgClosure.StringsIndexFuncTop
import Derived.Shelf.Strings.Prefix
import Derived.Shelf.Strings.SplitShaped
import Derived.Ground.MpProg
import Derived.Ground.GgwProg
import Derived.Ground.Names2Prog
import Derived.Test.YtoaggmldekejoaaGreatDoorProg
import Derived.Laws.RangeAny
namespace Go.Proofs
open Go.Shelf
def Tryz.lays158_ren : Go.Shelf.Ren := ⟨fun | 158 => 78 | 165 => 101 | 166 => 86 | 167 => 85 | 169 => 58 | 230 => 102 | 203 => 103 | 240 => 106 | 241 => 113 | 197 => 114 | 118 => 115 | 168 => 116 | 270 => 117 | 262 => 118 | 276 => 120 | 277 => 127 | 260 => 128 | 242 => 129 | 313 => 130 | 278 => 139 | 274 => 140 | 275 => 141 | n => n, fun | 9 => 9 | 4 => 4 | 3 => 3 | 5 => 5 | 72 => 104 | 0 => 0 | 76 => 134 | 75 => 132 | 107 => 154 | 70 => 101 | 20 => 20 | 37 => 102 | 127 => 138 | 21 => 21 | 105 => 160 | 164 => 166 | 162 => 178 | 203 => 176 | 119 => 187 | 46 => 183 | 139 => 190 | 138 => 189 | 51 => 181 | 160 => 191 | 208 => 198 | 206 => 196 | 80 => 113 | n => n, fun | 13 => 3 | 3 => 6 | 4 => 7 | n => n⟩
theorem Tryz.lays158 : Go.Proofs.Lays.n158 Tryz.prog Tryz.lays158_ren := {
 mixed := by kernel_rfl
 f118 := Tryz.func115.trans (congrArg some (by kernel_rfl))
 f158 := Tryz.func78.trans (congrArg some (by kernel_rfl))
 f165 := Tryz.func101.trans (congrArg some (by kernel_rfl))
 f166 := Tryz.func86.trans (congrArg some (by kernel_rfl))
 f167 := Tryz.func85.trans (congrArg some (by kernel_rfl))
 f168 := Tryz.func116.trans (congrArg some (by kernel_rfl))
 f169 := Tryz.func58.trans (congrArg some (by kernel_rfl))
 f197 := Tryz.func114.trans (congrArg some (by kernel_rfl))
 f203 := Tryz.func103.trans (congrArg some (by kernel_rfl))
 f230 := Tryz.func102.trans (congrArg some (by kernel_rfl))
 f240 := Tryz.func106.trans (congrArg some (by kernel_rfl))
 f241 := Tryz.func113.trans (congrArg some (by kernel_rfl))
 f242 := Tryz.func129.trans (congrArg some (by kernel_rfl))
 f260 := Tryz.func128.trans (congrArg some (by kernel_rfl))
 f262 := Tryz.func118.trans (congrArg some (by kernel_rfl))
 f270 := Tryz.func117.trans (congrArg some (by kernel_rfl))
 f274 := Tryz.func140.trans (congrArg some (by kernel_rfl))
 f275 := Tryz.func141.trans (congrArg some (by kernel_rfl))
 f276 := Tryz.func120.trans (congrArg some (by kernel_rfl))
 f277 := Tryz.func127.trans (congrArg some (by kernel_rfl))
 f278 := Tryz.func139.trans (congrArg some (by kernel_rfl))
 f313 := Tryz.func130.trans (congrArg some (by kernel_rfl))
 t0 := Tryz.underlying0
 a0 := Tryz.isAgg0
 z0 := Tryz.sizeOf0
 v0 := Tryz.zeroValue0
 t3 := Tryz.underlying3
 a3 := Tryz.isAgg3
 z3 := Tryz.sizeOf3
 v3 := Tryz.zeroValue3
 t4 := Tryz.underlying4
 a4 := Tryz.isAgg4
 z4 := Tryz.sizeOf4
 v4 := Tryz.zeroValue4
 t5 := Tryz.underlying5
 a5 := Tryz.isAgg5
 z5 := Tryz.sizeOf5
 v5 := Tryz.zeroValue5
 t9 := Tryz.underlying9
 a9 := Tryz.isAgg9
 z9 := Tryz.sizeOf9
 v9 := Tryz.zeroValue9
 t20 := Tryz.underlying20
 a20 := Tryz.isAgg20
 z20 := Tryz.sizeOf20
 v20 := Tryz.zeroValue20
 t21 := Tryz.underlying21
 a21 := Tryz.isAgg21
 z21 := Tryz.sizeOf21
 v21 := Tryz.zeroValue21
 t37 := Tryz.underlying102
 a37 := Tryz.isAgg102
 z37 := Tryz.sizeOf102
 v37 := Tryz.zeroValue102
 t46 := Tryz.underlying183
 a46 := Tryz.isAgg183
 z46 := Tryz.sizeOf183
 v46 := Tryz.zeroValue183
 t51 := Tryz.underlying181
 a51 := Tryz.isAgg181
 z51 := Tryz.sizeOf181
 v51 := Tryz.zeroValue181
 t70 := Tryz.underlying101
 a70 := Tryz.isAgg101
 z70 := Tryz.sizeOf101
 v70 := Tryz.zeroValue101
 t72 := Tryz.underlying104
 a72 := Tryz.isAgg104
 z72 := Tryz.sizeOf104
 v72 := Tryz.zeroValue104
 t75 := Tryz.underlying132
 a75 := Tryz.isAgg132
 z75 := Tryz.sizeOf132
 v75 := Tryz.zeroValue132
 t76 := Tryz.underlying134
 a76 := Tryz.isAgg134
 z76 := Tryz.sizeOf134
 v76 := Tryz.zeroValue134
 t105 := Tryz.underlying160
 a105 := Tryz.isAgg160
 z105 := Tryz.sizeOf160
 v105 := Tryz.zeroValue160
 t107 := Tryz.underlying154
 a107 := Tryz.isAgg154
 z107 := Tryz.sizeOf154
 v107 := Tryz.zeroValue154
 t119 := Tryz.underlying187
 a119 := Tryz.isAgg187
 z119 := Tryz.sizeOf187
 t127 := Tryz.underlying138
 a127 := Tryz.isAgg138
 z127 := Tryz.sizeOf138
 v127 := Tryz.zeroValue138
 t138 := Tryz.underlying189
 a138 := Tryz.isAgg189
 z138 := Tryz.sizeOf189
 v138 := Tryz.zeroValue189
 t139 := Tryz.underlying190
 a139 := Tryz.isAgg190
 z139 := Tryz.sizeOf190
 v139 := Tryz.zeroValue190
 t160 := Tryz.underlying191
 a160 := Tryz.isAgg191
 z160 := Tryz.sizeOf191
 v160 := Tryz.zeroValue191
 t162 := Tryz.underlying178
 a162 := Tryz.isAgg178
 z162 := Tryz.sizeOf178
 v162 := Tryz.zeroValue178
 t164 := Tryz.underlying166
 a164 := Tryz.isAgg166
 z164 := Tryz.sizeOf166
 v164 := Tryz.zeroValue166
 t203 := Tryz.underlying176
 a203 := Tryz.isAgg176
 z203 := Tryz.sizeOf176
 v203 := Tryz.zeroValue176
 t206 := Tryz.underlying196
 a206 := Tryz.isAgg196
 z206 := Tryz.sizeOf196
 v206 := Tryz.zeroValue196
 t208 := Tryz.underlying198
 a208 := Tryz.isAgg198
 z208 := Tryz.sizeOf198
 v208 := Tryz.zeroValue198
 g3 := by kernel_rfl
 g4 := by kernel_rfl
 g13 := by kernel_rfl }
theorem Tryz.Builder_Extra_158 : Builder.Extra Tryz.prog Tryz.lays158_ren := {
 sizeBuilder := by kernel_rfl
 liesBuilder := by kernel_rfl
 t5 := Tryz.underlying5
 a5 := Tryz.isAgg5
 z5 := Tryz.sizeOf5
 v5 := Tryz.zeroValue5
 infoByte := by kernel_rfl
 cellsByte := by kernel_rfl
 sizeByte := by kernel_rfl
 neB5 := by decide }
open Go.RowKit in
open Go.RowKit in
open Go.RowKit in
def Tryz.lays283_ren : Go.Shelf.Ren := ⟨fun | 283 => 121 | n => n, fun | 3 => 3 | 9 => 9 | 4 => 4 | n => n, fun | n => n⟩
theorem Tryz.lays283 : Go.Proofs.Lays.n283 Tryz.prog Tryz.lays283_ren := {
 mixed := by kernel_rfl
 f283 := Tryz.func121.trans (congrArg some (by kernel_rfl))
 t3 := Tryz.underlying3
 a3 := Tryz.isAgg3
 z3 := Tryz.sizeOf3
 v3 := Tryz.zeroValue3
 t4 := Tryz.underlying4
 a4 := Tryz.isAgg4
 z4 := Tryz.sizeOf4
 v4 := Tryz.zeroValue4
 t9 := Tryz.underlying9
 a9 := Tryz.isAgg9
 z9 := Tryz.sizeOf9
 v9 := Tryz.zeroValue9 }
open Go.Lib in
/-- internal/strconv.small: "small returns the string for an i with 0 <= i < nSmalls.": i's decimal numeral. The world is as it was. (LAID: no walk: one application.) -/
theorem Tryz.internal_strconv_small (i : Nat) (h : i < 100) (w : World) :
 Calls Tryz.prog 121 #[.int .i64 i] w fun e w' => e = .returned (.string ⟨(Lib.decDigits i).toArray⟩) ∧ w' = w := Any.internal_strconv_small Tryz.lays283 i h w
def Tryz.laysM284_ren : Go.Shelf.Ren := ⟨fun | 284 => 122 | 129 => 132 | 317 => 131 | 318 => 133 | n => n, fun | 53 => 53 | 3 => 3 | 212 => 180 | 0 => 0 | 4 => 4 | 46 => 183 | 5 => 5 | 9 => 9 | n => n, fun | 17 => 4 | n => n⟩
theorem Tryz.laysM284 : Go.Proofs.LaysM.n284 Tryz.prog Tryz.laysM284_ren := {
 mixed := by kernel_rfl
 f129 := Tryz.func132.trans (congrArg some (by kernel_rfl))
 f284 := Tryz.func122.trans (congrArg some (by kernel_rfl))
 f317 := Tryz.func131.trans (congrArg some (by kernel_rfl))
 f318 := Tryz.func133.trans (congrArg some (by kernel_rfl))
 t0 := Tryz.underlying0
 a0 := Tryz.isAgg0
 z0 := Tryz.sizeOf0
 v0 := Tryz.zeroValue0
 t3 := Tryz.underlying3
 a3 := Tryz.isAgg3
 z3 := Tryz.sizeOf3
 v3 := Tryz.zeroValue3
 t4 := Tryz.underlying4
 a4 := Tryz.isAgg4
 z4 := Tryz.sizeOf4
 v4 := Tryz.zeroValue4
 t5 := Tryz.underlying5
 a5 := Tryz.isAgg5
 z5 := Tryz.sizeOf5
 v5 := Tryz.zeroValue5
 t9 := Tryz.underlying9
 a9 := Tryz.isAgg9
 z9 := Tryz.sizeOf9
 v9 := Tryz.zeroValue9
 t46 := Tryz.underlying183
 a46 := Tryz.isAgg183
 z46 := Tryz.sizeOf183
 v46 := Tryz.zeroValue183
 t53 := Tryz.underlying53
 a53 := Tryz.isAgg53
 z53 := Tryz.sizeOf53
 v53 := Tryz.zeroValue53
 t212 := Tryz.underlying180
 a212 := Tryz.isAgg180
 z212 := Tryz.sizeOf180
 v212 := Tryz.zeroValue180
 g17 := by kernel_rfl
 i0 := by kernel_rfl
 i3 := by kernel_rfl
 i4 := by kernel_rfl
 i5 := by kernel_rfl
 i9 := by kernel_rfl
 i46 := by kernel_rfl
 i53 := by kernel_rfl
 i212 := by kernel_rfl
 m17 := by kernel_rfl }
open Go.Lib in
/-- internal/strconv.numDigits, at a d that is not 0: THE NUMBER OF d's DECIMAL DIGITS. The world is as it was. (LAID: no walk: one application.) -/
theorem Tryz.internal_strconv_numDigits (u : Nat) (h1 : 1 ≤ u) (h2 : u < 18446744073709551616) (w : World) (htab : Lib.TabIs Tryz.prog w "internal/strconv.uint64pow10" .u64 Lib.pow10Tab) :
 Calls Tryz.prog 122 #[.int .u64 u] w fun e w' => e = .returned (.int .i64 (Lib.nDigits u)) ∧ w' = w := Any.internal_strconv_numDigits Tryz.laysM284 u h1 h2 w htab
def Tryz.lays285_ren : Go.Shelf.Ren := ⟨fun | 285 => 123 | n => n, fun | 37 => 102 | 53 => 53 | 3 => 3 | 4 => 4 | 51 => 181 | 9 => 9 | 5 => 5 | 0 => 0 | n => n, fun | n => n⟩
theorem Tryz.lays285 : Go.Proofs.Lays.n285 Tryz.prog Tryz.lays285_ren := {
 mixed := by kernel_rfl
 f285 := Tryz.func123.trans (congrArg some (by kernel_rfl))
 t0 := Tryz.underlying0
 a0 := Tryz.isAgg0
 z0 := Tryz.sizeOf0
 v0 := Tryz.zeroValue0
 t3 := Tryz.underlying3
 a3 := Tryz.isAgg3
 z3 := Tryz.sizeOf3
 v3 := Tryz.zeroValue3
 t4 := Tryz.underlying4
 a4 := Tryz.isAgg4
 z4 := Tryz.sizeOf4
 v4 := Tryz.zeroValue4
 t5 := Tryz.underlying5
 a5 := Tryz.isAgg5
 z5 := Tryz.sizeOf5
 v5 := Tryz.zeroValue5
 t9 := Tryz.underlying9
 a9 := Tryz.isAgg9
 z9 := Tryz.sizeOf9
 v9 := Tryz.zeroValue9
 t37 := Tryz.underlying102
 a37 := Tryz.isAgg102
 z37 := Tryz.sizeOf102
 v37 := Tryz.zeroValue102
 t51 := Tryz.underlying181
 a51 := Tryz.isAgg181
 z51 := Tryz.sizeOf181
 v51 := Tryz.zeroValue181
 t53 := Tryz.underlying53
 a53 := Tryz.isAgg53
 z53 := Tryz.sizeOf53
 v53 := Tryz.zeroValue53 }
open Go.RowKit Go.Sort Go.Lib in
/-- internal/strconv.formatBase10: "formatBase10 formats the decimal representation of u into a. The caller is responsible for ensuring that a is big enough to hold u. If a is too big, leading zeros will be filled in as needed.": THE ROW HOLDS u's DIGITS ('FmtInv .. 0 ..': every place t holds 'dg u (len - 1 - t)'); all else is as it was but for the count of draws. (LAID: no walk: one application.) -/
theorem Tryz.internal_strconv_formatBase10 (blk off cap : Nat) (u : Nat) (d : Array UInt8) (w : World) (hH : Holds (fun (b : UInt8) => Value.int .u8 (b.toNat : Int)) w blk off d) (hu : u < 10 ^ d.size) (hu64 : u < 18446744073709551616) (hsz : d.size < 4611686018427387904) :
 Calls Tryz.prog 123 #[.slice (some ⟨blk, off, none⟩) d.size cap, .int .u64 u] w fun e w' =>
  e = .returned (.tuple #[]) ∧ ∃ (n v' : Nat) (dk : Array UInt8), w' = (putRow (fun (b : UInt8) => Value.int .u8 (b.toNat : Int)) w blk off dk).drewN n ∧ FmtInv d.size u 0 v' dk := Any.internal_strconv_formatBase10 Tryz.lays285 blk off cap u d w hH hu hu64 hsz
open Go.RowKit Go.Lib in
open Go.RowKit Go.Lib in
def Tryz.lays155_ren : Go.Shelf.Ren := ⟨fun | 155 => 96 | 154 => 110 | 138 => 125 | 165 => 101 | 143 => 126 | 166 => 86 | 197 => 114 | 169 => 58 | 195 => 136 | 218 => 137 | 240 => 106 | 241 => 113 | 219 => 138 | 260 => 128 | 276 => 120 | 277 => 127 | 217 => 144 | 225 => 145 | 224 => 146 | 267 => 147 | 266 => 148 | 314 => 149 | n => n, fun | 9 => 9 | 3 => 3 | 4 => 4 | 72 => 104 | 0 => 0 | 76 => 134 | 105 => 160 | 21 => 21 | 5 => 5 | 70 => 101 | 20 => 20 | 37 => 102 | 75 => 132 | 127 => 138 | 164 => 166 | 46 => 183 | 119 => 187 | 139 => 190 | 138 => 189 | 146 => 201 | 51 => 181 | 80 => 113 | n => n, fun | 1 => 5 | 3 => 6 | 4 => 7 | n => n⟩
theorem Tryz.lays155 : Go.Proofs.Lays.n155 Tryz.prog Tryz.lays155_ren := {
 mixed := by kernel_rfl
 f138 := Tryz.func125.trans (congrArg some (by kernel_rfl))
 f143 := Tryz.func126.trans (congrArg some (by kernel_rfl))
 f154 := Tryz.func110.trans (congrArg some (by kernel_rfl))
 f155 := Tryz.func96.trans (congrArg some (by kernel_rfl))
 f165 := Tryz.func101.trans (congrArg some (by kernel_rfl))
 f166 := Tryz.func86.trans (congrArg some (by kernel_rfl))
 f169 := Tryz.func58.trans (congrArg some (by kernel_rfl))
 f195 := Tryz.func136.trans (congrArg some (by kernel_rfl))
 f197 := Tryz.func114.trans (congrArg some (by kernel_rfl))
 f217 := Tryz.func144.trans (congrArg some (by kernel_rfl))
 f218 := Tryz.func137.trans (congrArg some (by kernel_rfl))
 f219 := Tryz.func138.trans (congrArg some (by kernel_rfl))
 f224 := Tryz.func146.trans (congrArg some (by kernel_rfl))
 f225 := Tryz.func145.trans (congrArg some (by kernel_rfl))
 f240 := Tryz.func106.trans (congrArg some (by kernel_rfl))
 f241 := Tryz.func113.trans (congrArg some (by kernel_rfl))
 f260 := Tryz.func128.trans (congrArg some (by kernel_rfl))
 f266 := Tryz.func148.trans (congrArg some (by kernel_rfl))
 f267 := Tryz.func147.trans (congrArg some (by kernel_rfl))
 f276 := Tryz.func120.trans (congrArg some (by kernel_rfl))
 f277 := Tryz.func127.trans (congrArg some (by kernel_rfl))
 f314 := Tryz.func149.trans (congrArg some (by kernel_rfl))
 t0 := Tryz.underlying0
 a0 := Tryz.isAgg0
 z0 := Tryz.sizeOf0
 v0 := Tryz.zeroValue0
 t3 := Tryz.underlying3
 a3 := Tryz.isAgg3
 z3 := Tryz.sizeOf3
 v3 := Tryz.zeroValue3
 t4 := Tryz.underlying4
 a4 := Tryz.isAgg4
 z4 := Tryz.sizeOf4
 v4 := Tryz.zeroValue4
 t5 := Tryz.underlying5
 a5 := Tryz.isAgg5
 z5 := Tryz.sizeOf5
 v5 := Tryz.zeroValue5
 t9 := Tryz.underlying9
 a9 := Tryz.isAgg9
 z9 := Tryz.sizeOf9
 v9 := Tryz.zeroValue9
 t20 := Tryz.underlying20
 a20 := Tryz.isAgg20
 z20 := Tryz.sizeOf20
 v20 := Tryz.zeroValue20
 t21 := Tryz.underlying21
 a21 := Tryz.isAgg21
 z21 := Tryz.sizeOf21
 v21 := Tryz.zeroValue21
 t37 := Tryz.underlying102
 a37 := Tryz.isAgg102
 z37 := Tryz.sizeOf102
 v37 := Tryz.zeroValue102
 t46 := Tryz.underlying183
 a46 := Tryz.isAgg183
 z46 := Tryz.sizeOf183
 v46 := Tryz.zeroValue183
 t51 := Tryz.underlying181
 a51 := Tryz.isAgg181
 z51 := Tryz.sizeOf181
 v51 := Tryz.zeroValue181
 t70 := Tryz.underlying101
 a70 := Tryz.isAgg101
 z70 := Tryz.sizeOf101
 v70 := Tryz.zeroValue101
 t72 := Tryz.underlying104
 a72 := Tryz.isAgg104
 z72 := Tryz.sizeOf104
 v72 := Tryz.zeroValue104
 t75 := Tryz.underlying132
 a75 := Tryz.isAgg132
 z75 := Tryz.sizeOf132
 v75 := Tryz.zeroValue132
 t76 := Tryz.underlying134
 a76 := Tryz.isAgg134
 z76 := Tryz.sizeOf134
 v76 := Tryz.zeroValue134
 t105 := Tryz.underlying160
 a105 := Tryz.isAgg160
 z105 := Tryz.sizeOf160
 v105 := Tryz.zeroValue160
 t119 := Tryz.underlying187
 a119 := Tryz.isAgg187
 z119 := Tryz.sizeOf187
 t127 := Tryz.underlying138
 a127 := Tryz.isAgg138
 z127 := Tryz.sizeOf138
 v127 := Tryz.zeroValue138
 t138 := Tryz.underlying189
 a138 := Tryz.isAgg189
 z138 := Tryz.sizeOf189
 v138 := Tryz.zeroValue189
 t139 := Tryz.underlying190
 a139 := Tryz.isAgg190
 z139 := Tryz.sizeOf190
 v139 := Tryz.zeroValue190
 t146 := Tryz.underlying201
 a146 := Tryz.isAgg201
 z146 := Tryz.sizeOf201
 v146 := Tryz.zeroValue201
 t164 := Tryz.underlying166
 a164 := Tryz.isAgg166
 z164 := Tryz.sizeOf166
 v164 := Tryz.zeroValue166
 g1 := by kernel_rfl
 g3 := by kernel_rfl
 g4 := by kernel_rfl }
theorem Tryz.Builder_Extra_155 : Builder.Extra Tryz.prog Tryz.lays155_ren := {
 sizeBuilder := by kernel_rfl
 liesBuilder := by kernel_rfl
 t5 := Tryz.underlying5
 a5 := Tryz.isAgg5
 z5 := Tryz.sizeOf5
 v5 := Tryz.zeroValue5
 infoByte := by kernel_rfl
 cellsByte := by kernel_rfl
 sizeByte := by kernel_rfl
 neB5 := by decide }
open Go.RowKit Go.Lib in
/-- strings.ReplaceAll: "ReplaceAll returns a copy of the string s with all non-overlapping instances of old replaced by new.": AT AN old THAT IS NOT EMPTY: 'Lib.replaceAll s old new'. (LAID: no walk: one application.) -/
theorem Tryz.strings_ReplaceAll (s old new : ByteArray) (m : Int) (w : World) (hs : s.size < 4294967281) (hm : w.cell? ⟨5, 0, none⟩ = some (.int .i64 m)) (h1 : 1 ≤ old.size) (hlen : s.size + Lib.countB s old * new.size ≤ 140737488355328) :
 Calls Tryz.prog 96 #[.string s, .string old, .string new] w fun e w' =>
  e = .returned (.string ⟨(Lib.replaceAll s.data.toList old.data.toList new.data.toList).toArray⟩) ∧ Below w.heap.size w w' := Any.strings_ReplaceAll Tryz.lays155 Tryz.Builder_Extra_155 s old new m w hs hm h1 hlen
open Go.RowKit Go.Lib in
open Go.RowKit Go.Lib in
/-- **strings.ToUpper AT EVERY STRING, VALID UTF-8 OR NOT.** (LAID: no walk: one application.) -/
theorem Tryz.strings_ToUpper_any (s : ByteArray) (w : World) (hs : s.size < 35184372088832) (hV : CaseVar 3 caseA w) (hT : Lib.Utf8Tabs 6 7 w) :
 Calls Tryz.prog 78 #[.string s] w fun e w' => e = .returned (.string ⟨(Lib.toUpperD s.data.toList).toArray⟩) ∧ Below w.heap.size w w' := Any.strings_ToUpper_any Tryz.lays158 Tryz.Builder_Extra_158 s w hs hV hT
def Tryz.lays110_ren : Go.Shelf.Ren := ⟨fun | 110 => 100 | 109 => 112 | n => n, fun | 31 => 110 | 9 => 9 | 4 => 4 | 3 => 3 | 0 => 0 | n => n, fun | n => n⟩
theorem Tryz.lays110 : Go.Proofs.Lays.n110 Tryz.prog Tryz.lays110_ren := {
 mixed := by kernel_rfl
 f109 := Tryz.func112.trans (congrArg some (by kernel_rfl))
 f110 := Tryz.func100.trans (congrArg some (by kernel_rfl))
 t0 := Tryz.underlying0
 a0 := Tryz.isAgg0
 z0 := Tryz.sizeOf0
 v0 := Tryz.zeroValue0
 t3 := Tryz.underlying3
 a3 := Tryz.isAgg3
 z3 := Tryz.sizeOf3
 v3 := Tryz.zeroValue3
 t4 := Tryz.underlying4
 a4 := Tryz.isAgg4
 z4 := Tryz.sizeOf4
 v4 := Tryz.zeroValue4
 t9 := Tryz.underlying9
 a9 := Tryz.isAgg9
 z9 := Tryz.sizeOf9
 v9 := Tryz.zeroValue9
 t31 := Tryz.underlying110
 a31 := Tryz.isAgg110
 z31 := Tryz.sizeOf110
 v31 := Tryz.zeroValue110 }
open Go.Lib in
/-- slices.Contains at []string: "Contains reports whether v is present in s.": IT RETURNS 'Lib.containsS (the elements) v', which is true just where v is among them ('Lib.containsS_iff'); the world is as it was. ITS CALLEE slices.Index IS MET BY ITS OWN CONTRACT OFF THE SHELF (lay that first): no loop is walked here. (LAID: no walk: one application.) -/
theorem Tryz.slices_Contains_string (b off n c : Nat) (zs : List ByteArray) (x : ByteArray) (w : World) (hz : n ≤ zs.length) (hbig : n ≤ 9223372036854775807) (hc : ∀ j, j < zs.length → w.cell? ⟨b, off + j, none⟩ = some (.string (zs.getD j ByteArray.empty))) :
 Calls Tryz.prog 100 #[.slice (some ⟨b, off, none⟩) n c, .string x] w fun e w' => e = .returned (.bool (Lib.containsS (zs.take n) x)) ∧ w' = w := Any.slices_Contains_string Tryz.lays110 b off n c zs x w hz hbig hc
end Go.Proofs
/- Names: the layer's IsWord, IsName. Conditions: what the tables hold. -/
namespace Go.Proofs.YtoaggmldekejoaaGreatDoor
open Go.RowKit
set_option maxRecDepth 100000 in
theorem isword_any (s : ByteArray) (w : World) (hT : Tab w) : Calls Tryz.prog 77 #[.string s] w fun e w' => e = .returned (.bool (isWordB s)) ∧ w = w' := by
 have HT := Lib.hid hT.wd
 clear hT
 go_enter Tryz.func77, Tryz.ntmps77
 go_wp2_with fail
 refine (Tryz.slices_Contains_string 2 0 28 28 wordsL s w (by decide) (by decide) (fun j hj => by rw [Nat.zero_add]; exact HT.out j _ (by rw [List.getD_eq_getElem?_getD, List.getElem?_eq_getElem hj]; rfl))).mono ?_
 rintro e w2 ⟨rfl, rfl⟩
 go_wp2
 go_ret
 exact ⟨rfl, rfl⟩
theorem isLower_smI : ∀ b : UInt8, Lib.isLowerB b = smI (b.toNat : Int) := by
 intro b
 unfold Lib.isLowerB smI
 rw [Bool.eq_iff_iff, Bool.and_eq_true, Bool.and_eq_true, decide_eq_true_eq, decide_eq_true_eq, decide_eq_true_eq, decide_eq_true_eq, UInt8.le_iff_toNat_le, UInt8.le_iff_toNat_le]
 show 97 ≤ b.toNat ∧ b.toNat ≤ 122 ↔ _
 omega
theorem upA_eq (l : List UInt8) : Lib.toUpperA l = upL l := by
 unfold Lib.toUpperA upL
 refine List.map_congr_left fun b _ => ?_
 unfold Lib.upperB upB
 rw [isLower_smI]
theorem okI_high {c : Int} (h : 128 ≤ c) : okI c = false := by
 unfold okI smI dgI
 rw [decide_eq_false (show ¬ c ≤ 122 by omega), decide_eq_false (show ¬ c ≤ 57 by omega), decide_eq_false (show ¬ c = 95 by omega)]
 simp
theorem iter_below (w : World) (s : ByteArray) (p : Nat) : Below w.heap.size w (w.iter s p) := by
 unfold World.iter
 exact bl_al (Below.refl _ _) _
set_option maxRecDepth 100000 in
set_option maxHeartbeats 4000000 in
theorem isname_any (s : ByteArray) (w : World) (hT : Tab w) (hs : s.size ≤ 9223372036854775807) : Calls Tryz.prog 40 #[.string s] w fun e w' => e = .returned (.bool (nameB s)) ∧ Below w.heap.size w w' := by
 have HR := Lib.hid (show nameB s = (decide (1 ≤ s.size) && (decide (s.size ≤ 16) && (smI (bt s 0) && ((bts s).all okI && !isWordB ⟨(upL s.data.toList).toArray⟩)))) from rfl)
 generalize nameB s = r at *
 by_cases h1 : s.size < 1
 · have h2 : s.toList.isEmpty = true := by rw [ByteArray.toList_eq, List.isEmpty_iff]; exact List.eq_nil_of_length_eq_zero (by rw [show s.data.toList.length = s.size from by simp]; omega)
   go_enter Tryz.func40, Tryz.ntmps40
   go_wp2
   go_ret
   exact ⟨ret_bool (by rw [HR.out]; simp; omega), Below.refl _ _⟩
 have h2 : s.toList.isEmpty = false := by
  rw [ByteArray.toList_eq, List.isEmpty_eq_false_iff]
  intro e
  have h9 := congrArg List.length e
  rw [show s.data.toList.length = s.size from by simp] at h9
  simp only [List.length_nil] at h9
  omega
 by_cases h16 : 16 < s.size
 · have h3 : 16 < (s.size : Int) := by omega
   go_enter Tryz.func40, Tryz.ntmps40
   go_wp2
   go_ret
   exact ⟨ret_bool (by rw [HR.out]; simp; omega), Below.refl _ _⟩
 have h3 : (s.size : Int) ≤ 16 := by omega
 obtain ⟨b, hb⟩ := byte_at (s := s) (i := 0) (by omega)
 have hix : ∀ W, (Instr.index 9 (.string s) (.int .i64 0)).run Tryz.prog W = .ok (.int .u8 (b.toNat : Int)) W := run_bt hb
 have HR2 := Lib.hid (show r = (smI (b.toNat : Int) && ((bts s).all okI && !isWordB ⟨(upL s.data.toList).toArray⟩)) from by rw [HR.out, bt_of hb, decide_eq_true (show 1 ≤ s.size by omega), decide_eq_true (show s.size ≤ 16 by omega)]; rfl)
 have hb0 : 0 ≤ (b.toNat : Int) := by omega
 have hb255 : (b.toNat : Int) < 256 := by have := b.toNat_lt; omega
 have HS := Lib.hid (show s.size ≤ 16 by omega)
 clear hb HR h1 h16
 obtain ⟨c, hc⟩ : ∃ c, c = (b.toNat : Int) := ⟨_, rfl⟩
 rw [← hc] at hix HR2 hb0 hb255
 clear hc
 go_enter Tryz.func40, Tryz.ntmps40
 go_wp2_with fail
 have hw : (c + 2147483648) % 4294967296 - 2147483648 = c := by omega
 try rw [hw]
 refine (lsmall_any c _).mono ?_
 rintro e w2 ⟨rfl, rfl⟩
 obtain ⟨q, hq⟩ : ∃ q, q = smI c := ⟨_, rfl⟩
 rw [← hq] at HR2 ⊢
 clear hq hix
 cases q
 · go_wp2
   go_ret
   exact ⟨ret_bool (by rw [HR2.out]; rfl), Below.refl _ _⟩
 go_wp2_with fail
 refine (Tryz.strings_ToUpper_any s _ (by have := HS.out; omega) hT.cv hT.u8).mono ?_
 rintro e w3 ⟨rfl, q3⟩
 have HT3 := hT.below q3
 have HQ3 := Lib.hid q3
 clear q3 hT
 go_wp2_with fail
 refine (isword_any _ _ HT3).mono ?_
 rintro e w4 ⟨rfl, rfl⟩
 clear HT3
 have HA := Lib.hid (show (bts s).all okI = false ∨ (isWordB ⟨(Lib.toUpperD s.data.toList).toArray⟩ = isWordB ⟨(upL s.data.toList).toArray⟩) from by
  by_cases ha : ∀ b ∈ s.data.toList, b.toNat < 128
  · right; rw [Lib.toUpperD_ascii _ ha, upA_eq]
  · left
    rw [Bool.eq_false_iff]
    intro h9
    apply ha
    intro b hb
    rcases Nat.lt_or_ge b.toNat 128 with h8 | h8
    · exact h8
    · have h7 := List.all_eq_true.1 h9 (b.toNat : Int) (by unfold bts; exact List.mem_map.2 ⟨b, hb, rfl⟩)
      rw [okI_high (by omega)] at h7
      cases h7)
 obtain ⟨q, hq⟩ : ∃ q, q = isWordB ⟨(Lib.toUpperD s.data.toList).toArray⟩ := ⟨_, rfl⟩
 rw [← hq] at HA ⊢
 clear hq
 cases q
 case true =>
  have HF := Lib.hid (show r = false from by
   rcases HA.out with h | h
   · rw [HR2.out, h]; rfl
   · rw [HR2.out, ← h]; simp)
  go_wp2
  go_ret
  exact ⟨ret_bool HF.out.symm, HQ3.out⟩
 case false =>
  have HF := Lib.hid (show r = (bts s).all okI from by
   rcases HA.out with h | h
   · rw [HR2.out, h]; rfl
   · rw [HR2.out, ← h]; simp)
  clear HR2 HA
  go_wp2_with fail
  clear h2 h3 hb0 hb255 hw
  go_loopw [4] (fun _ w' => ∃ pos : Nat, w' = w3.iter s pos ∧ r = ((bts s).drop pos).all okI) (fun _ w' => s.size - w'.iterPos w3.heap.size)
  case atStart => exact ⟨0, rfl, by rw [HF.out]; simp⟩
  case round =>
   obtain ⟨pos, rfl, hri⟩ := hrel
   have HRI := Lib.hid hri
   clear hri HF
   by_cases hp : pos < s.size
   · obtain ⟨b, hb⟩ := byte_at hp
     have hbe : s[pos]'hp = b := by
      have h9 : s.data.toList[pos]? = some (s[pos]'hp) := by
       rw [List.getElem?_eq_getElem (by simpa using hp)]
       simp
       rfl
      rw [h9] at hb
      injection hb
     have HA := Lib.hid (allok_at (bts_at hb))
     have hnx : ∀ ty, (Instr.next (.pointer (some ⟨w3.heap.size, 0, none⟩)) true ty).run Tryz.prog (w3.iter s pos) = _ := fun ty => run_next_any w3 s pos ty hp
     by_cases h128 : b.toNat < 128
     · rw [decode_ascii s pos hp (by rw [hbe]; exact h128), hbe] at hnx
       obtain ⟨c, hc⟩ : ∃ c : Int, c = ((b.toNat : Nat) : Int) := ⟨_, rfl⟩
       rw [← hc] at HA
       dsimp only at hnx
       rw [← hc] at hnx
       clear hb hbe hc h128
       have HO := Lib.hid (show okI c = (smI c || (dgI c || decide (c = 95))) from rfl)
       obtain ⟨ok, hok⟩ : ∃ ok, ok = okI c := ⟨_, rfl⟩
       rw [← hok] at HO HA
       clear hok
       go_wp2_with fail
       refine (ldigit_any c _).mono ?_
       rintro e w2 ⟨rfl, rfl⟩
       clear hnx
       obtain ⟨q, hq⟩ : ∃ q, q = dgI c := ⟨_, rfl⟩
       rw [← hq] at HO ⊢
       clear hq
       cases q
       case true =>
        have HK := Lib.hid (show ok = true from by rw [HO.out]; simp)
        go_wp2
        go_roundw
        case rel => exact ⟨pos + 1, rfl, by rw [HRI.out, HA.out, HK.out]; rfl⟩
        all_goals simp only [World.iterPos_iter]; omega
       case false =>
        go_wp2_with fail
        refine (lsmall_any c _).mono ?_
        rintro e w2 ⟨rfl, rfl⟩
        obtain ⟨q, hq⟩ : ∃ q, q = smI c := ⟨_, rfl⟩
        rw [← hq] at HO ⊢
        clear hq
        cases q
        case true =>
         have HK := Lib.hid (show ok = true from by rw [HO.out]; rfl)
         go_wp2
         go_roundw
         case rel => exact ⟨pos + 1, rfl, by rw [HRI.out, HA.out, HK.out]; rfl⟩
         all_goals simp only [World.iterPos_iter]; omega
        case false =>
         by_cases h95 : c = 95
         · have e1 : (c == 95) = true := by simpa using h95
           have HK := Lib.hid (show ok = true from by rw [HO.out]; simpa using h95)
           clear h95
           go_wp2
           go_roundw
           case rel => exact ⟨pos + 1, rfl, by rw [HRI.out, HA.out, HK.out]; rfl⟩
           all_goals simp only [World.iterPos_iter]; omega
         · have e1 : (c == 95) = false := by simpa using h95
           have HK := Lib.hid (show ok = false from by rw [HO.out]; simpa using h95)
           clear h95
           go_wp2
           go_ret
           exact ⟨ret_bool (by rw [HRI.out, HA.out, HK.out]; rfl), bl_ca HQ3.out (iter_below _ _ _)⟩
     · have hd := (decode_high s pos hp (by rw [hbe]; omega)).1
       obtain ⟨c, hc⟩ : ∃ c : Int, c = (((Utf8.decode s pos).1 : Nat) : Int) := ⟨_, rfl⟩
       rw [← hc] at hnx
       have hc128 : 128 ≤ c := by omega
       have HF := Lib.hid (show r = false from by rw [HRI.out, HA.out, okI_high (show (128 : Int) ≤ (b.toNat : Int) by omega)]; rfl)
       have hd1 : dgI c = false := by unfold dgI; rw [decide_eq_false (show ¬ c ≤ 57 by omega)]; simp
       have hd2 : smI c = false := by unfold smI; rw [decide_eq_false (show ¬ c ≤ 122 by omega)]; simp
       have hd3 : (c == 95) = false := by simp; omega
       clear hc hd hb hbe h128
       go_wp2_with fail
       refine (ldigit_any c _).mono ?_
       rintro e w2 ⟨rfl, rfl⟩
       rw [hd1]
       clear hnx
       go_wp2_with fail
       refine (lsmall_any c _).mono ?_
       rintro e w2 ⟨rfl, rfl⟩
       rw [hd2]
       go_wp2
       go_ret
       exact ⟨ret_bool HF.out.symm, bl_ca HQ3.out (iter_below _ _ _)⟩
   · have hnx : ∀ ty, (Instr.next (.pointer (some ⟨w3.heap.size, 0, none⟩)) true ty).run Tryz.prog (w3.iter s pos) = _ := fun ty => run_next_end w3 s pos ty hp
     have HF := Lib.hid (show r = true from by rw [HRI.out, List.drop_of_length_le (by rw [bts_len]; omega)]; rfl)
     go_wp2
     go_ret
     exact ⟨ret_bool HF.out.symm, bl_ca HQ3.out (iter_below _ _ _)⟩
end Go.Proofs.YtoaggmldekejoaaGreatDoor
/- value.Check, value.Int, value.Null. Conditions: a value of whatever fields. -/
namespace Go.Proofs.YtoaggmldekejoaaGreatDoor
open Go.RowKit
/-- may a value be? -/
def rightB (k n u : Int) (s : ByteArray) : Bool :=
 if k = 0 then decide (n = 0 ∧ u = 0 ∧ s.toList = [])
 else if k = 1 then decide ((n = 0 ∨ n = 1) ∧ u = 0 ∧ s.toList = [])
 else if k = 2 then decide (u = 0 ∧ s.toList = [])
 else if k = 3 then decide (n = 0 ∧ u = 0 ∧ s.size ≤ 40)
 else decide (k = 4 ∧ s.toList = [])
set_option maxHeartbeats 1000000 in
theorem blank_0 (n u : Int) (s : ByteArray) (w : World) : Calls Tryz.prog 109 #[.agg #[.int .i64 0, .int .i64 n, .int .u64 u, .string s]] w fun e w' => e = .returned (.agg #[.int .i64 0, .int .i64 n, .int .u64 u, .string s]) ∧ Below w.heap.size w w' := by
 go_enter Tryz.func109, Tryz.ntmps109
 go_wp2
 refine bodyPost_ret (v := .agg #[.int .i64 0, .int .i64 n, .int .u64 u, .string s]) (by simp [results, Tryz.results109, go_sem]) rfl ⟨rfl, ?_⟩
 first | exact Below.refl _ _ | exact (Below.refl _ _).alloc (Nat.le_refl _) _ | exact ((Below.refl _ _).alloc (Nat.le_refl _) _).alloc (by simp) _
set_option maxHeartbeats 1000000 in
theorem blank_1 (n u : Int) (s : ByteArray) (h : n = 0 ∨ n = 1) (w : World) : Calls Tryz.prog 109 #[.agg #[.int .i64 1, .int .i64 n, .int .u64 u, .string s]] w fun e w' => e = .returned (.agg #[.int .i64 0, .int .i64 0, .int .u64 u, .string s]) ∧ Below w.heap.size w w' := by
 rcases h with rfl | rfl
 · go_enter Tryz.func109, Tryz.ntmps109
   go_wp2
   refine bodyPost_ret (v := .agg #[.int .i64 0, .int .i64 0, .int .u64 u, .string s]) (by simp [results, Tryz.results109, go_sem]) rfl ⟨rfl, ?_⟩
   first | exact Below.refl _ _ | exact (Below.refl _ _).alloc (Nat.le_refl _) _ | exact ((Below.refl _ _).alloc (Nat.le_refl _) _).alloc (by simp) _
 · go_enter Tryz.func109, Tryz.ntmps109
   go_wp2
   refine bodyPost_ret (v := .agg #[.int .i64 0, .int .i64 0, .int .u64 u, .string s]) (by simp [results, Tryz.results109, go_sem]) rfl ⟨rfl, ?_⟩
   first | exact Below.refl _ _ | exact (Below.refl _ _).alloc (Nat.le_refl _) _ | exact ((Below.refl _ _).alloc (Nat.le_refl _) _).alloc (by simp) _
set_option maxHeartbeats 1000000 in
theorem blank_1n (n u : Int) (s : ByteArray) (h : (n != 0) = true) (h2 : (n != 1) = true) (w : World) : Calls Tryz.prog 109 #[.agg #[.int .i64 1, .int .i64 n, .int .u64 u, .string s]] w fun e w' => e = .returned (.agg #[.int .i64 1, .int .i64 n, .int .u64 u, .string s]) ∧ Below w.heap.size w w' := by
 go_enter Tryz.func109, Tryz.ntmps109
 go_wp2
 refine bodyPost_ret (v := .agg #[.int .i64 1, .int .i64 n, .int .u64 u, .string s]) (by simp [results, Tryz.results109, go_sem]) rfl ⟨rfl, ?_⟩
 first | exact Below.refl _ _ | exact (Below.refl _ _).alloc (Nat.le_refl _) _ | exact ((Below.refl _ _).alloc (Nat.le_refl _) _).alloc (by simp) _
set_option maxHeartbeats 1000000 in
theorem blank_2 (n u : Int) (s : ByteArray) (w : World) : Calls Tryz.prog 109 #[.agg #[.int .i64 2, .int .i64 n, .int .u64 u, .string s]] w fun e w' => e = .returned (.agg #[.int .i64 0, .int .i64 0, .int .u64 u, .string s]) ∧ Below w.heap.size w w' := by
 go_enter Tryz.func109, Tryz.ntmps109
 go_wp2
 refine bodyPost_ret (v := .agg #[.int .i64 0, .int .i64 0, .int .u64 u, .string s]) (by simp [results, Tryz.results109, go_sem]) rfl ⟨rfl, ?_⟩
 first | exact Below.refl _ _ | exact (Below.refl _ _).alloc (Nat.le_refl _) _ | exact ((Below.refl _ _).alloc (Nat.le_refl _) _).alloc (by simp) _
set_option maxHeartbeats 1000000 in
theorem blank_3 (n u : Int) (s : ByteArray) (h : (s.size : Int) ≤ 40) (w : World) : Calls Tryz.prog 109 #[.agg #[.int .i64 3, .int .i64 n, .int .u64 u, .string s]] w fun e w' => e = .returned (.agg #[.int .i64 0, .int .i64 n, .int .u64 u, .string ⟨#[]⟩]) ∧ Below w.heap.size w w' := by
 go_enter Tryz.func109, Tryz.ntmps109
 go_wp2
 refine bodyPost_ret (v := .agg #[.int .i64 0, .int .i64 n, .int .u64 u, .string ⟨#[]⟩]) (by simp [results, Tryz.results109, go_sem]) rfl ⟨rfl, ?_⟩
 first | exact Below.refl _ _ | exact (Below.refl _ _).alloc (Nat.le_refl _) _ | exact ((Below.refl _ _).alloc (Nat.le_refl _) _).alloc (by simp) _
set_option maxHeartbeats 1000000 in
theorem blank_3n (n u : Int) (s : ByteArray) (h : ¬ (s.size : Int) ≤ 40) (w : World) : Calls Tryz.prog 109 #[.agg #[.int .i64 3, .int .i64 n, .int .u64 u, .string s]] w fun e w' => e = .returned (.agg #[.int .i64 3, .int .i64 n, .int .u64 u, .string s]) ∧ Below w.heap.size w w' := by
 go_enter Tryz.func109, Tryz.ntmps109
 go_wp2
 refine bodyPost_ret (v := .agg #[.int .i64 3, .int .i64 n, .int .u64 u, .string s]) (by simp [results, Tryz.results109, go_sem]) rfl ⟨rfl, ?_⟩
 first | exact Below.refl _ _ | exact (Below.refl _ _).alloc (Nat.le_refl _) _ | exact ((Below.refl _ _).alloc (Nat.le_refl _) _).alloc (by simp) _
set_option maxHeartbeats 1000000 in
theorem blank_4 (n u : Int) (s : ByteArray) (w : World) : Calls Tryz.prog 109 #[.agg #[.int .i64 4, .int .i64 n, .int .u64 u, .string s]] w fun e w' => e = .returned (.agg #[.int .i64 0, .int .i64 0, .int .u64 0, .string s]) ∧ Below w.heap.size w w' := by
 go_enter Tryz.func109, Tryz.ntmps109
 go_wp2
 refine bodyPost_ret (v := .agg #[.int .i64 0, .int .i64 0, .int .u64 0, .string s]) (by simp [results, Tryz.results109, go_sem]) rfl ⟨rfl, ?_⟩
 first | exact Below.refl _ _ | exact (Below.refl _ _).alloc (Nat.le_refl _) _ | exact ((Below.refl _ _).alloc (Nat.le_refl _) _).alloc (by simp) _
set_option maxHeartbeats 1000000 in
theorem blank_n (k n u : Int) (s : ByteArray) (h0 : (k == 0) = false) (h1 : (k == 1) = false) (h2 : (k == 2) = false) (h3 : (k == 3) = false) (h4 : (k == 4) = false) (w : World) : Calls Tryz.prog 109 #[.agg #[.int .i64 k, .int .i64 n, .int .u64 u, .string s]] w fun e w' => e = .returned (.agg #[.int .i64 k, .int .i64 n, .int .u64 u, .string s]) ∧ Below w.heap.size w w' := by
 go_enter Tryz.func109, Tryz.ntmps109
 go_wp2
 refine bodyPost_ret (v := .agg #[.int .i64 k, .int .i64 n, .int .u64 u, .string s]) (by simp [results, Tryz.results109, go_sem]) rfl ⟨rfl, ?_⟩
 first | exact Below.refl _ _ | exact (Below.refl _ _).alloc (Nat.le_refl _) _ | exact ((Below.refl _ _).alloc (Nat.le_refl _) _).alloc (by simp) _
end Go.Proofs.YtoaggmldekejoaaGreatDoor
/- value.Check. Conditions: a value of whatever fields. -/
namespace Go.Proofs.YtoaggmldekejoaaGreatDoor
open Go.RowKit
set_option maxHeartbeats 1000000 in
theorem check_0 (n u : Int) (s : ByteArray) (w : World) : Calls Tryz.prog 94 #[.agg #[.int .i64 0, .int .i64 n, .int .u64 u, .string s]] w fun e w' => e = .returned (.int .i64 (if rightB 0 n u s then 0 else 120)) ∧ Below w.heap.size w w' := by
 have b0 : Below w.heap.size w (w.alloc (.cells #[.int .i64 0, .int .i64 n, .int .u64 u, .string s] 55)) := (Below.refl _ _).alloc (Nat.le_refl _) _
 generalize hr : (if rightB 0 n u s then (0 : Int) else 120) = r
 have HR := Lib.hid hr
 clear hr
 go_enter Tryz.func94, Tryz.ntmps94
 go_wp2_with fail
 refine (blank_0 n u s _).mono ?_
 rintro e w1 ⟨rfl, b1⟩
 have b2 := b0.trans (b1.mono b0.size)
 clear b0 b1
 go_wp2
 all_goals (go_ret; refine ⟨?_, b2⟩; rw [← HR.out]; simp_all [rightB] <;> omega)
set_option maxHeartbeats 1000000 in
theorem check_1 (n u : Int) (s : ByteArray) (hn : n = 0 ∨ n = 1) (w : World) : Calls Tryz.prog 94 #[.agg #[.int .i64 1, .int .i64 n, .int .u64 u, .string s]] w fun e w' => e = .returned (.int .i64 (if rightB 1 n u s then 0 else 120)) ∧ Below w.heap.size w w' := by
 have b0 : Below w.heap.size w (w.alloc (.cells #[.int .i64 1, .int .i64 n, .int .u64 u, .string s] 55)) := (Below.refl _ _).alloc (Nat.le_refl _) _
 generalize hr : (if rightB 1 n u s then (0 : Int) else 120) = r
 have HR := Lib.hid hr
 clear hr
 go_enter Tryz.func94, Tryz.ntmps94
 go_wp2_with fail
 refine (blank_1 n u s hn _).mono ?_
 rintro e w1 ⟨rfl, b1⟩
 have b2 := b0.trans (b1.mono b0.size)
 clear b0 b1
 go_wp2
 all_goals (go_ret; refine ⟨?_, b2⟩; rw [← HR.out]; simp_all [rightB] <;> omega)
set_option maxHeartbeats 1000000 in
theorem check_2 (n u : Int) (s : ByteArray) (w : World) : Calls Tryz.prog 94 #[.agg #[.int .i64 2, .int .i64 n, .int .u64 u, .string s]] w fun e w' => e = .returned (.int .i64 (if rightB 2 n u s then 0 else 120)) ∧ Below w.heap.size w w' := by
 have b0 : Below w.heap.size w (w.alloc (.cells #[.int .i64 2, .int .i64 n, .int .u64 u, .string s] 55)) := (Below.refl _ _).alloc (Nat.le_refl _) _
 generalize hr : (if rightB 2 n u s then (0 : Int) else 120) = r
 have HR := Lib.hid hr
 clear hr
 go_enter Tryz.func94, Tryz.ntmps94
 go_wp2_with fail
 refine (blank_2 n u s _).mono ?_
 rintro e w1 ⟨rfl, b1⟩
 have b2 := b0.trans (b1.mono b0.size)
 clear b0 b1
 go_wp2
 all_goals (go_ret; refine ⟨?_, b2⟩; rw [← HR.out]; simp_all [rightB] <;> omega)
set_option maxHeartbeats 1000000 in
theorem check_4 (n u : Int) (s : ByteArray) (w : World) : Calls Tryz.prog 94 #[.agg #[.int .i64 4, .int .i64 n, .int .u64 u, .string s]] w fun e w' => e = .returned (.int .i64 (if rightB 4 n u s then 0 else 120)) ∧ Below w.heap.size w w' := by
 have b0 : Below w.heap.size w (w.alloc (.cells #[.int .i64 4, .int .i64 n, .int .u64 u, .string s] 55)) := (Below.refl _ _).alloc (Nat.le_refl _) _
 generalize hr : (if rightB 4 n u s then (0 : Int) else 120) = r
 have HR := Lib.hid hr
 clear hr
 go_enter Tryz.func94, Tryz.ntmps94
 go_wp2_with fail
 refine (blank_4 n u s _).mono ?_
 rintro e w1 ⟨rfl, b1⟩
 have b2 := b0.trans (b1.mono b0.size)
 clear b0 b1
 go_wp2
 all_goals (go_ret; refine ⟨?_, b2⟩; rw [← HR.out]; simp_all [rightB] <;> omega)
set_option maxHeartbeats 1000000 in
theorem check_1n (n u : Int) (s : ByteArray) (h1 : (n != 0) = true) (h2 : (n != 1) = true) (w : World) : Calls Tryz.prog 94 #[.agg #[.int .i64 1, .int .i64 n, .int .u64 u, .string s]] w fun e w' => e = .returned (.int .i64 (if rightB 1 n u s then 0 else 120)) ∧ Below w.heap.size w w' := by
 have b0 : Below w.heap.size w (w.alloc (.cells #[.int .i64 1, .int .i64 n, .int .u64 u, .string s] 55)) := (Below.refl _ _).alloc (Nat.le_refl _) _
 generalize hr : (if rightB 1 n u s then (0 : Int) else 120) = r
 have HR := Lib.hid hr
 clear hr
 go_enter Tryz.func94, Tryz.ntmps94
 go_wp2_with fail
 refine (blank_1n n u s h1 h2 _).mono ?_
 rintro e w1 ⟨rfl, b1⟩
 have b2 := b0.trans (b1.mono b0.size)
 clear b0 b1
 go_wp2
 all_goals (go_ret; refine ⟨?_, b2⟩; rw [← HR.out]; simp_all [rightB] <;> omega)
set_option maxHeartbeats 1000000 in
theorem check_3 (n u : Int) (s : ByteArray) (h1 : s.size ≤ 40) (w : World) : Calls Tryz.prog 94 #[.agg #[.int .i64 3, .int .i64 n, .int .u64 u, .string s]] w fun e w' => e = .returned (.int .i64 (if rightB 3 n u s then 0 else 120)) ∧ Below w.heap.size w w' := by
 have b0 : Below w.heap.size w (w.alloc (.cells #[.int .i64 3, .int .i64 n, .int .u64 u, .string s] 55)) := (Below.refl _ _).alloc (Nat.le_refl _) _
 generalize hr : (if rightB 3 n u s then (0 : Int) else 120) = r
 have HR := Lib.hid hr
 clear hr
 go_enter Tryz.func94, Tryz.ntmps94
 go_wp2_with fail
 refine (blank_3 n u s (by omega) _).mono ?_
 rintro e w1 ⟨rfl, b1⟩
 have b2 := b0.trans (b1.mono b0.size)
 clear b0 b1
 go_wp2
 all_goals (go_ret; refine ⟨?_, b2⟩; rw [← HR.out]; simp_all [rightB] <;> omega)
set_option maxHeartbeats 1000000 in
theorem check_3n (n u : Int) (s : ByteArray) (h1 : 40 < s.size) (w : World) : Calls Tryz.prog 94 #[.agg #[.int .i64 3, .int .i64 n, .int .u64 u, .string s]] w fun e w' => e = .returned (.int .i64 (if rightB 3 n u s then 0 else 120)) ∧ Below w.heap.size w w' := by
 have b0 : Below w.heap.size w (w.alloc (.cells #[.int .i64 3, .int .i64 n, .int .u64 u, .string s] 55)) := (Below.refl _ _).alloc (Nat.le_refl _) _
 generalize hr : (if rightB 3 n u s then (0 : Int) else 120) = r
 have HR := Lib.hid hr
 clear hr
 go_enter Tryz.func94, Tryz.ntmps94
 go_wp2_with fail
 refine (blank_3n n u s (by omega) _).mono ?_
 rintro e w1 ⟨rfl, b1⟩
 have b2 := b0.trans (b1.mono b0.size)
 clear b0 b1
 go_wp2
 all_goals (go_ret; refine ⟨?_, b2⟩; rw [← HR.out]; simp_all [rightB] <;> omega)
set_option maxHeartbeats 1000000 in
theorem check_n (k n u : Int) (s : ByteArray) (h0 : (k == 0) = false) (h1 : (k == 1) = false) (h2 : (k == 2) = false) (h3 : (k == 3) = false) (h4 : (k == 4) = false) (w : World) : Calls Tryz.prog 94 #[.agg #[.int .i64 k, .int .i64 n, .int .u64 u, .string s]] w fun e w' => e = .returned (.int .i64 (if rightB k n u s then 0 else 120)) ∧ Below w.heap.size w w' := by
 have b0 : Below w.heap.size w (w.alloc (.cells #[.int .i64 k, .int .i64 n, .int .u64 u, .string s] 55)) := (Below.refl _ _).alloc (Nat.le_refl _) _
 generalize hr : (if rightB k n u s then (0 : Int) else 120) = r
 have HR := Lib.hid hr
 clear hr
 go_enter Tryz.func94, Tryz.ntmps94
 go_wp2_with fail
 refine (blank_n k n u s h0 h1 h2 h3 h4 _).mono ?_
 rintro e w1 ⟨rfl, b1⟩
 have b2 := b0.trans (b1.mono b0.size)
 clear b0 b1
 go_wp2
 all_goals (go_ret; refine ⟨?_, b2⟩; rw [← HR.out]; simp_all [rightB] <;> omega)
theorem check_any (k n u : Int) (s : ByteArray) (w : World) : Calls Tryz.prog 94 #[.agg #[.int .i64 k, .int .i64 n, .int .u64 u, .string s]] w fun e w' => e = .returned (.int .i64 (if rightB k n u s then 0 else 120)) ∧ Below w.heap.size w w' := by
 by_cases h0 : k = 0
 · subst h0; exact check_0 n u s w
 by_cases h1 : k = 1
 · subst h1
   by_cases hn : n = 0 ∨ n = 1
   · exact check_1 n u s hn w
   · exact check_1n n u s (by rw [bne_iff_ne]; omega) (by rw [bne_iff_ne]; omega) w
 by_cases h2 : k = 2
 · subst h2; exact check_2 n u s w
 by_cases h3 : k = 3
 · subst h3
   by_cases hs : s.size ≤ 40
   · exact check_3 n u s hs w
   · exact check_3n n u s (by omega) w
 by_cases h4 : k = 4
 · subst h4; exact check_4 n u s w
 exact check_n k n u s (by simp [h0]) (by simp [h1]) (by simp [h2]) (by simp [h3]) (by simp [h4]) w
end Go.Proofs.YtoaggmldekejoaaGreatDoor
/- bowspritref02.Right. Conditions: a value of whatever fields. -/
namespace Go.Proofs.YtoaggmldekejoaaGreatDoor
open Go.RowKit
set_option maxHeartbeats 2000000 in
theorem right_any (k n u : Int) (s : ByteArray) (w : World) : Calls Tryz.prog 111 #[.agg #[.int .i64 k, .int .i64 n, .int .u64 u, .string s]] w fun e w' => e = .returned (.bool (rightB k n u s)) ∧ Below w.heap.size w w' := by
 generalize hr : rightB k n u s = r
 have HR := Lib.hid hr
 clear hr
 go_enter Tryz.func111, Tryz.ntmps111
 go_wp2
 all_goals (go_ret; refine ⟨?_, (Below.refl _ _).alloc (Nat.le_refl _) _⟩; rw [← HR.out]; simp_all [rightB] <;> first | omega | grind)
end Go.Proofs.YtoaggmldekejoaaGreatDoor
/- value.Text, Bool, Plain, True, and the reference's Bool, Plain. Conditions: none. -/
namespace Go.Proofs.YtoaggmldekejoaaGreatDoor
open Go.RowKit
def plainB (k n u : Int) (s : ByteArray) : Bool := rightB k n u s && k != 4
end Go.Proofs.YtoaggmldekejoaaGreatDoor
/- value.Plain, value.True, and the reference's Plain. Conditions: none. -/
namespace Go.Proofs.YtoaggmldekejoaaGreatDoor
open Go.RowKit
theorem check_y (k n u : Int) (s : ByteArray) (h : rightB k n u s = true) (w : World) : Calls Tryz.prog 94 #[.agg #[.int .i64 k, .int .i64 n, .int .u64 u, .string s]] w fun e w' => e = .returned (.int .i64 0) ∧ Below w.heap.size w w' := by
 have := check_any k n u s w
 rw [h] at this
 exact this
theorem check_x (k n u : Int) (s : ByteArray) (h : rightB k n u s = false) (w : World) : Calls Tryz.prog 94 #[.agg #[.int .i64 k, .int .i64 n, .int .u64 u, .string s]] w fun e w' => e = .returned (.int .i64 120) ∧ Below w.heap.size w w' := by
 have := check_any k n u s w
 rw [h] at this
 exact this
set_option maxHeartbeats 2000000 in
theorem plain_any (k n u : Int) (s : ByteArray) (w : World) : Calls Tryz.prog 92 #[.agg #[.int .i64 k, .int .i64 n, .int .u64 u, .string s]] w fun e w' => e = .returned (.bool (plainB k n u s)) ∧ Below w.heap.size w w' := by
 cases hr : rightB k n u s
 · rw [show plainB k n u s = false from by unfold plainB; rw [hr]; rfl]
   have hV := (Blk.new w 55 #[.int .i64 k, .int .i64 n, .int .u64 u, .string s])
   have bb := (bl_al (Below.refl w.heap.size w) (.cells #[.int .i64 k, .int .i64 n, .int .u64 u, .string s] 55))
   go_enter Tryz.func92, Tryz.ntmps92
   go_wp2_with fail
   generalize (w.alloc (.cells #[.int .i64 k, .int .i64 n, .int .u64 u, .string s] 55)) = w1 at *
   have hV_0 : w1.cell? ⟨w.heap.size, 0, none⟩ = some (.int .i64 k) := hV.cell 0
   have hV_1 : w1.cell? ⟨w.heap.size, 1, none⟩ = some (.int .i64 n) := hV.cell 1
   have hV_2 : w1.cell? ⟨w.heap.size, 2, none⟩ = some (.int .u64 u) := hV.cell 2
   have hV_3 : w1.cell? ⟨w.heap.size, 3, none⟩ = some (.string s) := hV.cell 3
   go_wp2_with fail
   refine (check_x k n u s hr _).mono ?_
   rintro e w2 ⟨rfl, q2⟩
   replace hV := hV.ca q2
   replace bb := bl_ca bb q2
   clear hV_0 hV_1 hV_2 hV_3
   clear q2
   have hV_0 : w2.cell? ⟨w.heap.size, 0, none⟩ = some (.int .i64 k) := hV.cell 0
   go_wp2
   go_ret
   exact ⟨rfl, bb⟩
 · cases hk : (k != 4)
   · rw [show plainB k n u s = false from by unfold plainB; rw [hr, hk]; rfl]
     have hV := (Blk.new w 55 #[.int .i64 k, .int .i64 n, .int .u64 u, .string s])
     have bb := (bl_al (Below.refl w.heap.size w) (.cells #[.int .i64 k, .int .i64 n, .int .u64 u, .string s] 55))
     go_enter Tryz.func92, Tryz.ntmps92
     go_wp2_with fail
     generalize (w.alloc (.cells #[.int .i64 k, .int .i64 n, .int .u64 u, .string s] 55)) = w1 at *
     have hV_0 : w1.cell? ⟨w.heap.size, 0, none⟩ = some (.int .i64 k) := hV.cell 0
     have hV_1 : w1.cell? ⟨w.heap.size, 1, none⟩ = some (.int .i64 n) := hV.cell 1
     have hV_2 : w1.cell? ⟨w.heap.size, 2, none⟩ = some (.int .u64 u) := hV.cell 2
     have hV_3 : w1.cell? ⟨w.heap.size, 3, none⟩ = some (.string s) := hV.cell 3
     go_wp2_with fail
     refine (check_y k n u s hr _).mono ?_
     rintro e w2 ⟨rfl, q2⟩
     replace hV := hV.ca q2
     replace bb := bl_ca bb q2
     clear hV_0 hV_1 hV_2 hV_3
     clear q2
     have hV_0 : w2.cell? ⟨w.heap.size, 0, none⟩ = some (.int .i64 k) := hV.cell 0
     go_wp2
     go_ret
     exact ⟨rfl, bb⟩
   · rw [show plainB k n u s = true from by unfold plainB; rw [hr, hk]; rfl]
     have hV := (Blk.new w 55 #[.int .i64 k, .int .i64 n, .int .u64 u, .string s])
     have bb := (bl_al (Below.refl w.heap.size w) (.cells #[.int .i64 k, .int .i64 n, .int .u64 u, .string s] 55))
     go_enter Tryz.func92, Tryz.ntmps92
     go_wp2_with fail
     generalize (w.alloc (.cells #[.int .i64 k, .int .i64 n, .int .u64 u, .string s] 55)) = w1 at *
     have hV_0 : w1.cell? ⟨w.heap.size, 0, none⟩ = some (.int .i64 k) := hV.cell 0
     have hV_1 : w1.cell? ⟨w.heap.size, 1, none⟩ = some (.int .i64 n) := hV.cell 1
     have hV_2 : w1.cell? ⟨w.heap.size, 2, none⟩ = some (.int .u64 u) := hV.cell 2
     have hV_3 : w1.cell? ⟨w.heap.size, 3, none⟩ = some (.string s) := hV.cell 3
     go_wp2_with fail
     refine (check_y k n u s hr _).mono ?_
     rintro e w2 ⟨rfl, q2⟩
     replace hV := hV.ca q2
     replace bb := bl_ca bb q2
     clear hV_0 hV_1 hV_2 hV_3
     clear q2
     have hV_0 : w2.cell? ⟨w.heap.size, 0, none⟩ = some (.int .i64 k) := hV.cell 0
     go_wp2
     go_ret
     exact ⟨rfl, bb⟩
set_option maxHeartbeats 2000000 in
theorem rplain_any (k n u : Int) (s : ByteArray) (w : World) : Calls Tryz.prog 98 #[.agg #[.int .i64 k, .int .i64 n, .int .u64 u, .string s]] w fun e w' => e = .returned (.bool (plainB k n u s)) ∧ Below w.heap.size w w' := by
 cases hr : rightB k n u s
 · rw [show plainB k n u s = false from by unfold plainB; rw [hr]; rfl]
   have hV := (Blk.new w 55 #[.int .i64 k, .int .i64 n, .int .u64 u, .string s])
   have bb := (bl_al (Below.refl w.heap.size w) (.cells #[.int .i64 k, .int .i64 n, .int .u64 u, .string s] 55))
   go_enter Tryz.func98, Tryz.ntmps98
   go_wp2_with fail
   generalize (w.alloc (.cells #[.int .i64 k, .int .i64 n, .int .u64 u, .string s] 55)) = w1 at *
   have hV_0 : w1.cell? ⟨w.heap.size, 0, none⟩ = some (.int .i64 k) := hV.cell 0
   have hV_1 : w1.cell? ⟨w.heap.size, 1, none⟩ = some (.int .i64 n) := hV.cell 1
   have hV_2 : w1.cell? ⟨w.heap.size, 2, none⟩ = some (.int .u64 u) := hV.cell 2
   have hV_3 : w1.cell? ⟨w.heap.size, 3, none⟩ = some (.string s) := hV.cell 3
   go_wp2_with fail
   refine (right_any k n u s _).mono ?_
   rintro e w2 ⟨rfl, q2⟩
   rw [hr]
   replace hV := hV.ca q2
   replace bb := bl_ca bb q2
   clear hV_0 hV_1 hV_2 hV_3
   clear q2
   have hV_0 : w2.cell? ⟨w.heap.size, 0, none⟩ = some (.int .i64 k) := hV.cell 0
   go_wp2
   go_ret
   exact ⟨rfl, bb⟩
 · cases hk : (k != 4)
   · rw [show plainB k n u s = false from by unfold plainB; rw [hr, hk]; rfl]
     have hV := (Blk.new w 55 #[.int .i64 k, .int .i64 n, .int .u64 u, .string s])
     have bb := (bl_al (Below.refl w.heap.size w) (.cells #[.int .i64 k, .int .i64 n, .int .u64 u, .string s] 55))
     go_enter Tryz.func98, Tryz.ntmps98
     go_wp2_with fail
     generalize (w.alloc (.cells #[.int .i64 k, .int .i64 n, .int .u64 u, .string s] 55)) = w1 at *
     have hV_0 : w1.cell? ⟨w.heap.size, 0, none⟩ = some (.int .i64 k) := hV.cell 0
     have hV_1 : w1.cell? ⟨w.heap.size, 1, none⟩ = some (.int .i64 n) := hV.cell 1
     have hV_2 : w1.cell? ⟨w.heap.size, 2, none⟩ = some (.int .u64 u) := hV.cell 2
     have hV_3 : w1.cell? ⟨w.heap.size, 3, none⟩ = some (.string s) := hV.cell 3
     go_wp2_with fail
     refine (right_any k n u s _).mono ?_
     rintro e w2 ⟨rfl, q2⟩
     rw [hr]
     replace hV := hV.ca q2
     replace bb := bl_ca bb q2
     clear hV_0 hV_1 hV_2 hV_3
     clear q2
     have hV_0 : w2.cell? ⟨w.heap.size, 0, none⟩ = some (.int .i64 k) := hV.cell 0
     go_wp2
     go_ret
     exact ⟨rfl, bb⟩
   · rw [show plainB k n u s = true from by unfold plainB; rw [hr, hk]; rfl]
     have hV := (Blk.new w 55 #[.int .i64 k, .int .i64 n, .int .u64 u, .string s])
     have bb := (bl_al (Below.refl w.heap.size w) (.cells #[.int .i64 k, .int .i64 n, .int .u64 u, .string s] 55))
     go_enter Tryz.func98, Tryz.ntmps98
     go_wp2_with fail
     generalize (w.alloc (.cells #[.int .i64 k, .int .i64 n, .int .u64 u, .string s] 55)) = w1 at *
     have hV_0 : w1.cell? ⟨w.heap.size, 0, none⟩ = some (.int .i64 k) := hV.cell 0
     have hV_1 : w1.cell? ⟨w.heap.size, 1, none⟩ = some (.int .i64 n) := hV.cell 1
     have hV_2 : w1.cell? ⟨w.heap.size, 2, none⟩ = some (.int .u64 u) := hV.cell 2
     have hV_3 : w1.cell? ⟨w.heap.size, 3, none⟩ = some (.string s) := hV.cell 3
     go_wp2_with fail
     refine (right_any k n u s _).mono ?_
     rintro e w2 ⟨rfl, q2⟩
     rw [hr]
     replace hV := hV.ca q2
     replace bb := bl_ca bb q2
     clear hV_0 hV_1 hV_2 hV_3
     clear q2
     have hV_0 : w2.cell? ⟨w.heap.size, 0, none⟩ = some (.int .i64 k) := hV.cell 0
     go_wp2
     go_ret
     exact ⟨rfl, bb⟩
end Go.Proofs.YtoaggmldekejoaaGreatDoor
/- How many parts a tag has; what may be written; names that may be missing. Conditions: what the tables hold. -/
namespace Go.Proofs.YtoaggmldekejoaaGreatDoor
open Go.RowKit
theorem ret_i {a b : Int} (h : a = b) : Ending.returned (.int .i64 a) = Ending.returned (.int .i64 b) := by rw [h]
set_option maxRecDepth 100000 in
theorem parts_any (t : Int) (w : World) : Calls Tryz.prog 62 #[.int .i64 t] w fun e w' => e = .returned (.int .i64 (partsI t)) ∧ w = w' := by
 have HP := Lib.hid (show partsI t = if t < 1 then -1 else if 23 < t then -1 else if t ≤ 3 then 0 else if t ≤ 11 then 1 else 2 from rfl)
 generalize partsI t = r at *
 by_cases h1 : t < 1
 · have HF := Lib.hid (show r = -1 from by rw [HP.out, if_pos h1])
   go_enter Tryz.func62, Tryz.ntmps62
   go_wp2
   go_ret
   exact ⟨ret_i HF.out.symm, rfl⟩
 have h1' : 1 ≤ t := by omega
 by_cases h2 : 23 < t
 · have HF := Lib.hid (show r = -1 from by rw [HP.out, if_neg h1, if_pos h2])
   clear h1
   go_enter Tryz.func62, Tryz.ntmps62
   go_wp2
   go_ret
   exact ⟨ret_i HF.out.symm, rfl⟩
 have h2' : t ≤ 23 := by omega
 by_cases h3 : t ≤ 3
 · have HF := Lib.hid (show r = 0 from by rw [HP.out, if_neg h1, if_neg h2, if_pos h3])
   clear h1 h2
   go_enter Tryz.func62, Tryz.ntmps62
   go_wp2
   go_ret
   exact ⟨ret_i HF.out.symm, rfl⟩
 have h3' : 3 < t := by omega
 by_cases h4 : t ≤ 11
 · have HF := Lib.hid (show r = 1 from by rw [HP.out, if_neg h1, if_neg h2, if_neg h3, if_pos h4])
   clear h1 h2 h3
   go_enter Tryz.func62, Tryz.ntmps62
   go_wp2
   go_ret
   exact ⟨ret_i HF.out.symm, rfl⟩
 have h4' : 11 < t := by omega
 have HF := Lib.hid (show r = 2 from by rw [HP.out, if_neg h1, if_neg h2, if_neg h3, if_neg h4])
 clear h1 h2 h3 h4
 go_enter Tryz.func62, Tryz.ntmps62
 go_wp2
 go_ret
 exact ⟨ret_i HF.out.symm, rfl⟩
set_option maxRecDepth 100000 in
theorem rparts_any (t : Int) (w : World) : Calls Tryz.prog 29 #[.int .i64 t] w fun e w' => e = .returned (.int .i64 (partsI t)) ∧ w = w' := by
 have HP := Lib.hid (show partsI t = if t < 1 then -1 else if 23 < t then -1 else if t ≤ 3 then 0 else if t ≤ 11 then 1 else 2 from rfl)
 generalize partsI t = r at *
 by_cases h1 : t < 1
 · have HF := Lib.hid (show r = -1 from by rw [HP.out, if_pos h1])
   go_enter Tryz.func29, Tryz.ntmps29
   go_wp2
   go_ret
   exact ⟨ret_i HF.out.symm, rfl⟩
 have h1' : 1 ≤ t := by omega
 by_cases h2 : 23 < t
 · have HF := Lib.hid (show r = -1 from by rw [HP.out, if_neg h1, if_pos h2])
   clear h1
   go_enter Tryz.func29, Tryz.ntmps29
   go_wp2
   go_ret
   exact ⟨ret_i HF.out.symm, rfl⟩
 have h2' : t ≤ 23 := by omega
 by_cases h3 : t ≤ 3
 · have HF := Lib.hid (show r = 0 from by rw [HP.out, if_neg h1, if_neg h2, if_pos h3])
   clear h1 h2
   go_enter Tryz.func29, Tryz.ntmps29
   go_wp2
   go_ret
   exact ⟨ret_i HF.out.symm, rfl⟩
 have h3' : 3 < t := by omega
 by_cases h4 : t ≤ 11
 · have HF := Lib.hid (show r = 1 from by rw [HP.out, if_neg h1, if_neg h2, if_neg h3, if_pos h4])
   clear h1 h2 h3
   go_enter Tryz.func29, Tryz.ntmps29
   go_wp2
   go_ret
   exact ⟨ret_i HF.out.symm, rfl⟩
 have h4' : 11 < t := by omega
 have HF := Lib.hid (show r = 2 from by rw [HP.out, if_neg h1, if_neg h2, if_neg h3, if_neg h4])
 clear h1 h2 h3 h4
 go_enter Tryz.func29, Tryz.ntmps29
 go_wp2
 go_ret
 exact ⟨ret_i HF.out.symm, rfl⟩
/-- may a text be written alone? -/
def wriB (s : ByteArray) : Bool := s.data.toList.all plU
theorem all_drop {l : List UInt8} {i : Nat} {b : UInt8} (p : UInt8 → Bool) (h : l[i]? = some b) : (l.drop i).all p = (p b && (l.drop (i + 1)).all p) := by
 have hlt : i < l.length := (List.getElem?_eq_some_iff.1 h).1
 rw [List.drop_eq_getElem_cons hlt, List.all_cons]
 have e : l[i] = b := by rw [List.getElem?_eq_getElem hlt] at h; injection h
 rw [e]
set_option maxRecDepth 100000 in
theorem written_any (s : ByteArray) (w : World) (hs : s.size ≤ 9223372036854775807) : Calls Tryz.prog 93 #[.string s] w fun e w' => e = .returned (.bool (wriB s)) ∧ Below w.heap.size w w' := by
 have HR := Lib.hid (show wriB s = (s.data.toList.drop 0).all plU from by rw [List.drop_zero]; rfl)
 generalize wriB s = r at *
 have HL := Lib.hid (show s.data.toList.length = s.size from by simp)
 go_enter Tryz.func93, Tryz.ntmps93
 go_wp2_with fail
 go_loopg [6] s.size (fun g a wr => ∃ i : Nat, i + g = s.size ∧ a = .int .i64 i ∧ Hid (r = (s.data.toList.drop i).all plU) ∧ Below w.heap.size w wr)
 case atStart => exact ⟨0, by omega, rfl, HR, Below.refl _ _⟩
 case round =>
  obtain ⟨i, hig, rfl, HI, hb⟩ := hrel
  have HB := Lib.hid hb
  clear hb
  by_cases hlt : i < s.size
  · have hi1 : (i : Int) < (s.size : Int) := by omega
    obtain ⟨b, hbt⟩ := byte_at hlt
    have hix := run_bt hbt
    have HA := Lib.hid (all_drop plU hbt)
    have HPL := Lib.hid (show plU b = (decide (32 ≤ (b.toNat : Int)) && decide ((b.toNat : Int) ≤ 126)) from rfl)
    obtain ⟨cc, hc⟩ : ∃ cc, cc = (b.toNat : Int) := ⟨_, rfl⟩
    rw [← hc] at hix HPL
    clear hbt hc
    by_cases h1 : cc < 32
    · have HF := Lib.hid (show r = false from by rw [HI.out, HA.out, HPL.out, decide_eq_false (by omega)]; rfl)
      go_wp2
      go_ret
      exact ⟨ret_bool HF.out.symm, HB.out⟩
    · have h1' : 32 ≤ cc := by omega
      by_cases h2 : 126 < cc
      · have HF := Lib.hid (show r = false from by rw [HI.out, HA.out, HPL.out, decide_eq_false (show ¬ cc ≤ 126 by omega), Bool.and_false]; rfl)
        clear h1
        go_wp2
        go_ret
        exact ⟨ret_bool HF.out.symm, HB.out⟩
      · have h2' : cc ≤ 126 := by omega
        have HF := Lib.hid (show r = (s.data.toList.drop (i + 1)).all plU from by rw [HI.out, HA.out, HPL.out, decide_eq_true h1', decide_eq_true h2']; rfl)
        clear h1 h2
        go_wp2
        go_roundg (gk - 1)
        · exact ⟨i + 1, by omega, by go_num, HF, HB.out⟩
        · omega
  · obtain rfl : i = s.size := by omega
    have hi1 : (s.size : Int) ≤ (s.size : Int) := by omega
    have HF := Lib.hid (show r = true from by rw [HI.out, List.drop_of_length_le (by rw [HL.out]; exact Nat.le_refl _)]; rfl)
    go_wp2
    go_ret
    exact ⟨ret_bool HF.out.symm, HB.out⟩
/-- is a text a name, or empty? -/
def mayB (s : ByteArray) : Bool := decide (s.data.toList = []) || nameB s
theorem toList_data (s : ByteArray) : s.toList = s.data.toList := ByteArray.toList_eq s
set_option maxRecDepth 100000 in
theorem maybe_any (s : ByteArray) (w : World) (hT : Tab w) (hs : s.size ≤ 9223372036854775807) : Calls Tryz.prog 83 #[.string s] w fun e w' => e = .returned (.bool (mayB s)) ∧ Below w.heap.size w w' := by
 have HR := Lib.hid (show mayB s = (decide (s.data.toList = []) || nameB s) from rfl)
 have HC := Lib.hid (isname_any s w hT hs)
 generalize mayB s = r at *
 generalize nameB s = q at *
 clear hT hs
 by_cases h0 : s.data.toList = []
 · have HF := Lib.hid (show r = true from by rw [HR.out, decide_eq_true h0]; rfl)
   have hs0 : s = ⟨#[]⟩ := by rw [show s = ⟨s.data.toList.toArray⟩ from rfl, h0]
   subst hs0
   clear h0
   go_enter Tryz.func83, Tryz.ntmps83
   go_wp2
   go_ret
   exact ⟨ret_bool HF.out.symm, Below.refl _ _⟩
 · have HF := Lib.hid (show r = q from by rw [HR.out, decide_eq_false h0]; rfl)
   have e1 : s.toList.isEmpty = false := by rw [toList_data]; cases h : s.data.toList with | nil => exact absurd h h0 | cons => rfl
   have e2 : (s.toList == []) = false := by rw [toList_data]; simpa using h0
   have e3 : ¬ s.toList = [] := by rw [toList_data]; exact h0
   clear h0
   go_enter Tryz.func83, Tryz.ntmps83
   go_wp2_with fail
   refine HC.out.mono ?_
   rintro e w2 ⟨rfl, q2⟩
   go_wp2
   go_ret
   exact ⟨ret_bool HF.out.symm, q2⟩
end Go.Proofs.YtoaggmldekejoaaGreatDoor
